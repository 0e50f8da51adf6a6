/- append onto a row of one's own, within a region that draws its order: what it keeps. No program stands here. The walks of slices.Contains over numbers, fog's count, carted, agreed. The walk of fog's can: where a cart can be, by minutes. Printed by my gen_fcan.py. The walks of fog's Count, At and Heard. Printed by my gen_fat.py. The walks of fog's lists and Clash. Printed by my gen_flists.py. The walks of fog's pairs, loud, placed, Twins, Decide. Printed by my gen_fpairs.py. The walks of fog's loud, placed, Twins and Decide. Printed by my gen_ftwin.py. -/
import Derived.Test.YtlonpgbapiemcaaGreatG1
import Derived.Test.YtlonpgbapiemcaaGreatFRest
import Derived.Test.YtlonpgbapiemcaaGreatG2
namespace Go.Proofs.YtlonpgbapiemcaaGreat
open Go Go.RowKit
set_option linter.unusedVariables false
set_option linter.unusedSimpArgs false

theorem run_append_keep {P : Program} (w : World) (t ty e : TypeId) (size bytes : Nat) (E : ElemOK P t e size bytes) (base : Nat)
    (v : Value) (n : Nat) (xs : List Value) (hown : w.ownsRow base e size v n xs) (ad : Addr) (m c : Nat) (news : List Value) (hl : news.length = m * size) (hr : ∀ j u, news[j]? = some u → w.cell? (ad.add j) = some u)
    (h1 : ∀ u ∈ news, u.oneCell' = true) (hbytes : (n + m) * bytes ≤ 140737488355328) (hbase : base ≤ w.heap.size) (hm : 0 < m) :
    ∃ A' c' w', (Builtin.append_ #[t, t] ty #[v, .slice (some ad) m c]).run P w = .ok (.slice A' (n + m) c') w' ∧ w'.ownsRow base e size (.slice A' (n + m) c') (n + m) (xs ++ news) ∧
      (Ext w w' ∨ ∃ g cap, v = .slice (some ⟨g, 0, none⟩) n cap ∧ A' = some ⟨g, 0, none⟩ ∧ c' = cap ∧ n + m ≤ cap ∧ w.grownBy w' (some g)) := by
  obtain ⟨ht, ⟨i, z, hi, hz, hsize, hby, hzs⟩, hsz, hbp⟩ := E
  have h63 : n + m ≤ maxLen := by
    have := Nat.le_mul_of_pos_right (n + m) hbp
    simp only [maxLen]; omega
  rcases hown.2 with ⟨rfl, rfl⟩ | ⟨g, cap, cur, rfl, hbg, hg, hnc, hcm, hcs, htake⟩
  · obtain ⟨v', w', hrun, h2, h3, h4, h5⟩ := run_append_own_at (P := P) w base t ty e i z size bytes ht hi hz hsize hby hzs hsz _ 0 xs hown ad m c news hl hr h1 h63 hbytes hbase
    obtain ⟨A', c', rfl⟩ := own_slice h2
    exact ⟨A', c', w', hrun, h2, .inl (Ext.grown (Ext.refl w) h3 (fun k e => by cases e))⟩
  · by_cases hroom : n + m ≤ cap
    · obtain ⟨w', hrun, h2, h3⟩ := run_append_fits (P := P) w base t ty e i size ht hi hsize g n cap xs hown ad m c news hl hr h1 hroom
      exact ⟨_, _, w', hrun, h2, .inr ⟨g, cap, rfl, rfl, rfl, hroom, h3⟩⟩
    · obtain ⟨v', w', hrun, h2, h3, h4, h5⟩ := run_append_own_at (P := P) w base t ty e i z size bytes ht hi hz hsize hby hzs hsz _ n xs hown ad m c news hl hr h1 h63 hbytes hbase
      obtain ⟨A', c', rfl⟩ := own_slice h2
      have holds : ∀ j u, xs[j]? = some u → w.cell? ((⟨g, 0, none⟩ : Addr).add j) = some u := hown.cells (g := g) rfl
      have hr2 := run_append_grow (P := P) w t ty e i z ht hi hz ⟨g, 0, none⟩ n cap xs (by rw [hown.1, hsize]) holds ad m c news (by rw [hl, hsize]) hr (by omega) (by simp only [maxLen] at h63; omega) (growslice_fits (by omega) (by rw [hby]; exact hbytes))
      rw [hr2] at hrun
      injection hrun with e1 e2
      refine ⟨A', c', w', by rw [hr2, e1, e2], h2, .inl ?_⟩
      rw [← e2]
      exact Ext.alloc (Ext.drew (Ext.refl w)) _

/-- Block g holds the cells ys from its beginning on. -/
def Rd0 (w : World) (g : Nat) (ys : List Value) : Prop := ∀ j u, ys[j]? = some u → w.cell? ⟨g, j, none⟩ = some u
theorem Rd0.rd {w : World} {g : Nat} {ys : List Value} (h : Rd0 w g ys) : Rd w (some ⟨g, 0, none⟩) ys := .inr ⟨g, 0, rfl, fun j u hu => by rw [Nat.zero_add]; exact h j u hu⟩
theorem Rd0.ext {w w' : World} {g : Nat} {ys : List Value} (h : Rd0 w g ys) (hx : Ext w w') : Rd0 w' g ys := fun j u hu => hx.cell (h j u hu)
/-- What goes on while a row xs of L elements is copied and one element x is laid behind it. -/
def Laid (B : Nat) (e : TypeId) (L : Nat) (xs : List Value) (x : Value) (w w' : World) : Prop :=
  Below B w w' ∧ (∀ v, w.ownsRow B e 1 v L xs → w'.ownsRow B e 1 v L xs) ∧ (∀ g, Rd0 w g (xs ++ [x]) → Rd0 w' g (xs ++ [x])) ∧ (∀ g, Rd0 w g [x] → Rd0 w' g [x])
section
variable {B : Nat} {e : TypeId} {L : Nat} {xs : List Value} {x : Value}
theorem Laid.refl (w : World) : Laid B e L xs x w w := ⟨Below.refl _ _, fun _ h => h, fun _ h => h, fun _ h => h⟩
theorem Laid.trans {a b c : World} (h : Laid B e L xs x a b) (k : Laid B e L xs x b c) : Laid B e L xs x a c :=
  ⟨h.1.trans k.1, fun v hv => k.2.1 v (h.2.1 v hv), fun g hg => k.2.2.1 g (h.2.2.1 g hg), fun g hg => k.2.2.2 g (h.2.2.2 g hg)⟩
theorem Laid.of_ext {w w' : World} (h : Ext w w') (hB : B ≤ w.heap.size) : Laid B e L xs x w w' :=
  ⟨Below.mono h hB, fun _ hv => own_below hv h, fun _ hg => hg.ext h, fun _ hg => hg.ext h⟩
theorem rd0_own {w : World} {g L' cap : Nat} {ys : List Value} (h : w.ownsRow B e 1 (.slice (some ⟨g, 0, none⟩) L' cap) L' ys) : Rd0 w g ys := by
  intro j u hu
  have := h.cells (g := g) rfl j u hu
  rwa [Addr.add_lit, Nat.zero_add] at this
/-- The row that was appended to in its place. -/
theorem Laid.of_grown {w w' : World} {g cap : Nat} (hxs : xs.length = L) (h0 : w.ownsRow B e 1 (.slice (some ⟨g, 0, none⟩) L cap) L xs) (h1 : w'.ownsRow B e 1 (.slice (some ⟨g, 0, none⟩) (L + 1) cap) (L + 1) (xs ++ [x])) (hg : w.grownBy w' (some g)) : Laid B e L xs x w w' := by
  have hBg := (h0.lt g rfl)
  have hne : ∀ k, k < w.heap.size → k ≠ g → w'.heap[k]? = w.heap[k]? := fun k hk hkg => hg.block k hk (fun e => hkg (by cases e; rfl))
  have hr1 := rd0_own h1
  refine ⟨(Below.refl B w).grown hg (by omega) (fun k e => by cases e; exact hBg.1), fun v hv => ?_, fun k hk => ?_, fun k hk => ?_⟩
  · refine ⟨hv.1, ?_⟩
    rcases hv.2 with h | ⟨g2, cap2, cur2, rfl, b1, b2, b3, b4, b5, b6⟩
    · exact .inl h
    · by_cases hgg : g2 = g
      · subst hgg
        rcases h0.2 with ⟨h, _⟩ | ⟨g3, cap3, cur3, e3, c1, c2, c3, c4, c5, c6⟩
        · cases h
        · cases e3
          rw [b2] at c2
          cases c2
          rcases h1.2 with ⟨h, _⟩ | ⟨g4, cap4, cur4, e4, d1, d2, d3, d4, d5, d6⟩
          · cases h
          · cases e4
            refine .inr ⟨g2, cap2, cur4, rfl, b1, d2, b3, b4, by omega, ?_⟩
            have h2 := congrArg (List.take (L * 1)) d6
            rw [List.take_take, List.take_left' (by omega), show min (L * 1) ((L + 1) * 1) = L * 1 by omega] at h2
            exact h2
      · exact .inr ⟨g2, cap2, cur2, rfl, b1, (hne g2 (Array.getElem?_eq_some_iff.1 b2).1 hgg).trans b2, b3, b4, b5, b6⟩
  · by_cases hkg : k = g
    · subst hkg; exact hr1
    · intro j u hu
      have h2 := hk j u hu
      exact (World.cell?_of_block (a := ⟨k, j, none⟩) (hne k (World.block_lt_of_cell? w _ h2) hkg)).trans h2
  · by_cases hkg : k = g
    · subst hkg
      intro j u hu
      match j with
      | 0 =>
        cases hu
        cases L with
        | zero =>
          have : xs = [] := List.eq_nil_of_length_eq_zero hxs
          subst this
          exact hr1 0 x rfl
        | succ L =>
          have h2 := hk 0 x rfl
          have h3 : xs[0]? = some xs[0] := List.getElem?_eq_getElem (by omega)
          have h4 := rd0_own h0 0 _ h3
          rw [h2] at h4
          have h5 := hr1 0 xs[0] (by rw [List.getElem?_append_left (by omega)]; exact h3)
          rw [h5, ← h4]
      | j + 1 => simp at hu
    · intro j u hu
      have h2 := hk j u hu
      exact (World.cell?_of_block (a := ⟨k, j, none⟩) (hne k (World.block_lt_of_cell? w _ h2) hkg)).trans h2
end
end Go.Proofs.YtlonpgbapiemcaaGreat

namespace Go.Proofs.YtlonpgbapiemcaaGreat
open Go Go.RowKit Go.Shelf
set_option linter.unusedVariables false
set_option linter.unusedSimpArgs false

theorem indexI_any (x : Int) (A : Option Addr) (c : Nat) (l : List Int) (w : World) (hA : Ints w A l) (hl : l.length ≤ 9223372036854775807) :
    Calls Tryz.prog 47 #[.slice A l.length c, .int .i64 x] w fun e w' => e = .returned (.int .i64 (idxF (fun y => x == y) l 0)) ∧ w' = w := by
  have HF : Hid (idxF (fun y => x == y) l 0 = idxF (fun y => x == y) (l.drop 0) 0) := rfl
  generalize hF : idxF (fun y => x == y) l 0 = F at HF ⊢
  clear hF
  have HA := hid hA
  clear hA
  go_enter Tryz.func47, Tryz.ntmps47
  go_wp2
  go_loop [8] (fun s => ∃ k : Nat, k ≤ l.length ∧ s = .int .i64 (k : Int) ∧ Hid (F = idxF (fun y => x == y) (l.drop k) k)) (fun i => l.length - (intOf i).toNat)
  case atStart => exact ⟨0, Nat.zero_le _, rfl, HF⟩
  case round =>
    obtain ⟨k, hk, rfl, HF⟩ := hrel
    by_cases hlt : k < l.length
    · have hlt' : (k : Int) < (l.length : Int) := by omega
      obtain ⟨y, hy⟩ := get_of_lt l k hlt
      obtain ⟨b, off, rfl, e0⟩ := Ints.at_ HA.out hy
      have HD : Hid (F = if x == y then (k : Int) else idxF (fun y => x == y) (l.drop (k + 1)) (k + 1)) := by
        unfold Hid
        rw [HF.out, idxF_drop _ l k y hy]
      clear hy HF
      by_cases hxy : x = y
      · have HQ : Hid (F = (k : Int)) := by unfold Hid; rw [HD.out]; simp [hxy]
        clear HD
        subst hxy
        go_wp2
        go_ret
        exact ⟨ret_of (int_of HQ.out.symm), rfl⟩
      · have HQ : Hid (F = idxF (fun y => x == y) (l.drop (k + 1)) (k + 1)) := by unfold Hid; rw [HD.out]; simp [hxy]
        clear HD
        go_wp2
        go_round
        case rel => exact ⟨k + 1, by omega, by go_num, HQ⟩
        case measure => simp [intOf]; omega
    · have hlt' : ¬ (k : Int) < (l.length : Int) := by omega
      have HQ : Hid (F = -1) := by unfold Hid; rw [HF.out, idxF_end _ l k (by omega)]
      clear HF
      go_wp2
      go_ret
      exact ⟨ret_of (int_of HQ.out.symm), rfl⟩
theorem containsI_any (x : Int) (A : Option Addr) (c : Nat) (l : List Int) (w : World) (hA : Ints w A l) (hl : l.length ≤ 9223372036854775807) :
    Calls Tryz.prog 11 #[.slice A l.length c, .int .i64 x] w fun e w' => e = .returned (.bool (memI x l)) ∧ w = w' := by
  have H := hid (idxF_nonneg (fun y => x == y) l 0)
  go_enter Tryz.func11, Tryz.ntmps11
  go_wp2_with fail
  refine (indexI_any x A c l w hA hl).mono ?_
  rintro e w1 ⟨rfl, rfl⟩
  go_wp2
  go_ret
  exact ⟨ret_of (bool_of H.out), rfl⟩

theorem st_len {f : Fg} (h : FogOK f) {c : Ct} (hc : c ∈ f.ct) : c.st.length ≤ 8 := by
  have h1 := congrArg List.length (st_someW h hc)
  have h2 := someW_len (fun p => memI (p : Int) c.st) f.pl.toNat
  have := h.pl
  omega
def cnt (g : Mat) (f : Fg) (c : Ct) (sel : Int → Bool) (l : List Int) : Int := (l.map fun p => restM g f c sel 0 p.toNat).sum
theorem cnt_le {g : Mat} {f : Fg} {c : Ct} {sel : Int → Bool} (h : FogOK f) (l : List Int) : 0 ≤ cnt g f c sel l ∧ cnt g f c sel l ≤ l.length * 16777216 := by
  have := sum_le (l := l.map Int.toNat) (h := restM g f c sel 0) (B := 16777216) (fun y _ => restM_le h _ y)
  rw [List.map_map, List.length_map] at this
  exact this
theorem countM_le {g : Mat} {f : Fg} {c : Ct} {sel : Int → Bool} (h : FogOK f) (hc : c ∈ f.ct) : 0 ≤ countM g f c sel ∧ countM g f c sel ≤ 134217728 := by
  have h1 := cnt_le (g := g) (c := c) (sel := sel) h c.st
  have h2 := st_len h hc
  exact ⟨h1.1, Int.le_trans h1.2 (by omega)⟩

set_option maxRecDepth 100000 in
set_option maxHeartbeats 1000000 in
theorem count_any (D : Nat) (s : Ads) (f : Fg) (g : Mat) (c : Ct) (cv fv : Value) (sel : Int → Bool) (w : World) (hd : Dk w D s f g) (hr : FRows w s f) (hok : FogOK f) (hcm : c ∈ f.ct) (hc : CtR w cv c) (hfv : FnP Tryz.prog fv w IntR anyx sel) :
    Calls Tryz.prog 61 #[.pointer (some ⟨D, 0, none⟩), cv, .agg #[fv]] w fun e w' => e = .returned (.int .i64 (countM g f c sel)) ∧ Ext w w' := by
  have hc0 := hc
  have hfv0 := hfv
  obtain ⟨A1, c1, A2, c2, rfl, hS, hR, hk1, hk2⟩ := hc
  obtain ⟨fg, fst, lb, rfl, eg, hcall⟩ := hfv
  clear hcall
  have hl8 := st_len hok hcm
  have HOK := hid hok
  have HST := hid (hok.st c hcm)
  have HC : Hid (countM g f c sel = cnt g f c sel c.st) := rfl
  generalize countM g f c sel = F at HC ⊢
  have ho1 := fun o => Ext.alloc (Ext.refl w) o
  go_enter Tryz.func61, Tryz.ntmps61
  go_wp2_with fail
  obtain ⟨W1, hW1⟩ : ∃ W1, (w.alloc (.cells #[.slice A1 c.st.length c1, .slice A2 c.rp.length c2] 63)).alloc (.cells #[.func (.func fg) fst lb] 128) = W1 := ⟨_, rfl⟩
  have hX1 : Ext w W1 := by rw [← hW1]; exact ((Ext.refl w).alloc _).alloc _
  refine (rests_any D s f g c (.agg #[.slice A1 c.st.length c1, .slice A2 c.rp.length c2]) (.func (.func fg) fst lb) sel _ (hd.ext (by rw [hW1]; exact hX1)) (hr.ext (by rw [hW1]; exact hX1)) HOK.out hcm (hc0.ext (by rw [hW1]; exact hX1)) (hfv0.ext (by rw [hW1]; exact hX1))).mono ?_
  rintro e w2 ⟨M, rfl, hb2, hMz, hM⟩
  rw [hW1] at hb2
  have hx2 := hX1.trans hb2
  have e0 : w2.cell? ⟨w.heap.size, 0, none⟩ = some (.slice A1 c.st.length c1) := hb2.cell (by rw [← hW1]; simp [go_sem])
  have hS2 := hS.ext hx2
  clear hW1 hMz
  go_wp2
  go_loop [8, 18] (fun s8 s18 => ∃ kk : Nat, kk ≤ c.st.length ∧ s18 = .int .i64 kk ∧ s8 = .int .i64 (cnt g f c sel (c.st.take kk))) (fun _ i => c.st.length - (intOf i).toNat)
  case atStart => exact ⟨0, Nat.zero_le _, rfl, rfl⟩
  case round =>
    obtain ⟨kk, hk, rfl, rfl⟩ := hrel
    by_cases hlt : kk < c.st.length
    · have hlt' : (kk : Int) < (c.st.length : Int) := by omega
      obtain ⟨x, hx⟩ := get_of_lt c.st kk hlt
      obtain ⟨b, off, rfl, c0⟩ := Ints.at_ hS2 hx
      have hxb := HST.out x (mem_of_get hx)
      have hpl := HOK.out.pl
      obtain ⟨q, rfl⟩ : ∃ q : Nat, x = q := ⟨x.toNat, by omega⟩
      have hl := hM.look (m := 0) (p := q) (by omega) (by omega)
      rw [restV_done (by omega) (Nat.zero_le _) (by omega)] at hl
      have hqb := restM_le (g := g) (c := c) (sel := sel) HOK.out 0 q
      have hcb := cnt_le (g := g) (c := c) (sel := sel) HOK.out (c.st.take kk)
      have hcs : cnt g f c sel (c.st.take (kk + 1)) = cnt g f c sel (c.st.take kk) + restM g f c sel 0 q := by
        unfold cnt
        rw [List.take_add_one, hx, List.map_append, List.sum_append]
        simp
      simp only [List.length_take] at hcb
      obtain ⟨r, hr⟩ : ∃ r, restM g f c sel 0 q = r := ⟨_, rfl⟩
      obtain ⟨t, ht⟩ : ∃ t, cnt g f c sel (c.st.take kk) = t := ⟨_, rfl⟩
      rw [hr] at hl hqb hcs
      rw [ht] at hcb hcs ⊢
      have hw : IntKind.i64.wrap (t + r) = t + r := IntWalk.i64_in _ ⟨by omega, by omega⟩
      have HCS := hid hcs
      unfold spotV at hl
      simp only [Int.natCast_zero] at hl
      clear hx hr ht hcs
      go_wp2
      go_round
      case rel => exact ⟨kk + 1, by omega, by go_num, by rw [HCS.out]⟩
      case measure => simp [intOf]; omega
    · have hlt' : ¬ (kk : Int) < (c.st.length : Int) := by omega
      have HN : Hid (cnt g f c sel (c.st.take kk) = F) := by unfold Hid; rw [HC.out, List.take_of_length_le (by omega)]
      go_wp2
      go_ret
      exact ⟨ret_of (int_of HN.out), hx2⟩

/-- The error of a cart's number. -/
def cartE (f : Fg) (k : Int) : Int := if checkF f = 0 then (if ctOK f k then 0 else 1) else checkF f
theorem cartE_ok {f : Fg} {k : Int} (h : cartE f k = 0) : checkF f = 0 ∧ 0 ≤ k ∧ k < f.ct.length := by
  unfold cartE at h
  split at h
  · rename_i h0
    refine ⟨h0, ?_⟩
    split at h
    · rename_i h1
      have := inB_iff.1 h1
      omega
    · cases h
  · exact absurd h ‹_›
def CartedPost (w : World) (f : Fg) (k : Int) (e : Ending) (w' : World) : Prop := ∃ r, e = .returned (.tuple #[r, .int .i64 (cartE f k)]) ∧ Ext w w' ∧ (cartE f k = 0 → DkR w' r f) ∧ (cartE f k ≠ 0 → r = .pointer none)
set_option maxRecDepth 100000 in
set_option maxHeartbeats 1000000 in
theorem carted_any (v : Value) (f : Fg) (k : Int) (w : World) (hf : FgR w v f) (hs : f.sized) :
    Calls Tryz.prog 60 #[v, .int .i64 k] w (CartedPost w f k) := by
  obtain ⟨s, rfl, hr⟩ := hf.rows
  obtain ⟨T, hT⟩ : ∃ T, checkF f = T := ⟨_, rfl⟩
  have HT := hid hT
  clear hT
  have HS := hid hs
  have hx0 : Ext w (w.alloc (.cells #[.int .i64 f.pl, .int .i64 f.mi, .slice s.a1 f.tr.length s.c1, .slice s.a2 f.bl.length s.c2, .slice s.a3 f.ct.length s.c3] 29)) := Ext.alloc (Ext.refl w) _
  show Calls _ _ #[.agg #[.int .i64 f.pl, .int .i64 f.mi, .slice s.a1 f.tr.length s.c1, .slice s.a2 f.bl.length s.c2, .slice s.a3 f.ct.length s.c3], _] _ _
  go_enter Tryz.func60, Tryz.ntmps60
  go_wp2_with fail
  refine (opened_any (.agg #[.int .i64 f.pl, .int .i64 f.mi, .slice s.a1 f.tr.length s.c1, .slice s.a2 f.bl.length s.c2, .slice s.a3 f.ct.length s.c3]) f _ (FRows.fg (hr.ext hx0)) HS.out).mono ?_
  rintro e w1 ⟨r, rfl, hb1, hr1, hr2⟩
  have hx1 := hx0.trans hb1
  have kc0 := hb1.cell (p := ⟨w.heap.size, 0, none⟩) (u := .int .i64 f.pl) (by simp [go_sem])
  have kc1 := hb1.cell (p := ⟨w.heap.size, 1, none⟩) (u := .int .i64 f.mi) (by simp [go_sem])
  have kc2 := hb1.cell (p := ⟨w.heap.size, 2, none⟩) (u := .slice s.a1 f.tr.length s.c1) (by simp [go_sem])
  have kc3 := hb1.cell (p := ⟨w.heap.size, 3, none⟩) (u := .slice s.a2 f.bl.length s.c2) (by simp [go_sem])
  have kc4 := hb1.cell (p := ⟨w.heap.size, 4, none⟩) (u := .slice s.a3 f.ct.length s.c3) (by simp [go_sem])
  clear hx0 hb1
  rw [HT.out]
  by_cases h0 : T = 0
  case neg =>
    have HE : Hid (cartE f k = T) := by unfold Hid cartE; rw [if_neg (by rw [HT.out]; exact h0), HT.out]
    have HE0 : Hid (cartE f k ≠ 0) := by unfold Hid; rw [HE.out]; exact h0
    clear hr1 hr2
    go_wp2
    go_ret2
    exact ⟨.pointer none, by rw [HE.out]; rfl, hx1, fun h => absurd h HE0.out, fun _ => rfl⟩
  subst h0
  have HD := hid (hr1 HT.out)
  clear hr1 hr2
  go_wp2_with fail
  refine (cart_any (.agg #[.int .i64 f.pl, .int .i64 f.mi, .slice s.a1 f.tr.length s.c1, .slice s.a2 f.bl.length s.c2, .slice s.a3 f.ct.length s.c3]) f k w1 (FRows.fg (hr.ext hx1)) (by have := HS.out.ct; omega)).mono ?_
  rintro e w2 ⟨rfl, hb2⟩
  have hx2 := hx1.trans hb2
  cases hq : ctOK f k
  · have HE : Hid (cartE f k = 1) := by unfold Hid cartE; rw [if_pos HT.out, hq]; rfl
    have HE0 : Hid (cartE f k ≠ 0) := by unfold Hid; rw [HE.out]; decide
    go_wp2
    go_ret2
    exact ⟨.pointer none, by rw [HE.out]; rfl, hx2, fun h => absurd h HE0.out, fun _ => rfl⟩
  · have HE : Hid (cartE f k = 0) := by unfold Hid cartE; rw [if_pos HT.out, hq]; rfl
    go_wp2
    go_ret2
    exact ⟨r, by rw [HE.out]; rfl, hx2, fun _ => HD.out.ext hb2, fun h => absurd HE.out h⟩

/-! agreed -/
theorem agreed1_fn (w : World) (B : Nat) (A : Option Addr) (k : Nat) (l : List Int) (hB : w.cell? ⟨B, 0, none⟩ = some (.slice A l.length k)) (hA : Ints w A l) (hl : l.length ≤ 9223372036854775807) :
    FnP Tryz.prog (.func (.func 226) #[] #[.pointer (some ⟨B, 0, none⟩)]) w IntR anyx (fun i => memI i l) := by
  refine ⟨_, _, _, rfl, enters_of Tryz.func226 (by kernel_rfl) rfl, fun x v W hs hW hR => ?_⟩
  obtain rfl : v = .int .i64 x := hR
  have hBW := hW.cell hB
  have hAW := hA.kc hW
  show Calls _ _ #[_, _] _ _
  go_enter Tryz.func226, Tryz.ntmps226
  go_wp2_with fail
  refine (containsI_any x A k l W hAW hl).mono ?_
  rintro e w1 ⟨rfl, hw⟩
  subst hw
  go_wp2
  go_ret
  exact ⟨rfl, Ext.refl _⟩
set_option maxHeartbeats 1000000 in
theorem agreed_any (D : Nat) (s : Ads) (f : Fg) (g : Mat) (c : Ct) (cv : Value) (A : Option Addr) (k : Nat) (l : List Int) (w : World) (hd : Dk w D s f g) (hr : FRows w s f) (hok : FogOK f) (hcm : c ∈ f.ct) (hc : CtR w cv c) (hA : Ints w A l) (hl : l.length ≤ 9223372036854775807) :
    Calls Tryz.prog 174 #[.pointer (some ⟨D, 0, none⟩), cv, .slice A l.length k] w fun e w' => e = .returned (.bool (agreedM g f c l)) ∧ Ext w w' := by
  have hc0 := hc
  obtain ⟨A1, c1, A2, c2, rfl, hS, hR, hk1, hk2⟩ := hc
  have HF : Hid (decide (0 < countM g f c fun i => memI i l) = agreedM g f c l) := rfl
  generalize agreedM g f c l = F at HF ⊢
  go_enter Tryz.func174, Tryz.ntmps174
  go_wp2_with fail
  obtain ⟨W1, hW1⟩ : ∃ W1, (w.alloc (.cells #[.slice A1 c.st.length c1, .slice A2 c.rp.length c2] 63)).alloc (.cells #[.slice A l.length k] 37) = W1 := ⟨_, rfl⟩
  have hX1 : Ext w W1 := by rw [← hW1]; exact ((Ext.refl w).alloc _).alloc _
  have hB : W1.cell? ⟨w.heap.size + 1, 0, none⟩ = some (.slice A l.length k) := by rw [← hW1]; simp [go_sem]
  try rw [hW1]
  refine (count_any D s f g c (.agg #[.slice A1 c.st.length c1, .slice A2 c.rp.length c2]) _ (fun i => memI i l) W1 (hd.ext hX1) (hr.ext hX1) hok hcm (hc0.ext hX1) (agreed1_fn W1 _ A k l hB (hA.ext hX1) hl)).mono ?_
  rintro e w2 ⟨rfl, hb2⟩
  clear hW1
  go_wp2
  go_ret
  exact ⟨ret_of (bool_of HF.out), hX1.trans hb2⟩
end Go.Proofs.YtlonpgbapiemcaaGreat

namespace Go.Proofs.YtlonpgbapiemcaaGreat
open Go Go.RowKit Go.Shelf Go.Maps
set_option linter.unusedVariables false
set_option linter.unusedSimpArgs false

theorem can1_fn (w : World) (Bd X D : Nat) (s : Ads) (f : Fg) (g : Mat) (p : Nat) (hd : Dk w D s f g) (hp : p < 8) (hB : w.cell? ⟨Bd, 0, none⟩ = some (.pointer (some ⟨D, 0, none⟩))) (hX : w.cell? ⟨X, 0, none⟩ = some (.int .i64 (p : Int))) :
    FnP Tryz.prog (.func (.func 168) #[] #[.pointer (some ⟨Bd, 0, none⟩), .pointer (some ⟨X, 0, none⟩)]) w IntR (fun q => 0 ≤ q ∧ q < 8) (fun q => decide (g q.toNat p ≤ 1)) := by
  refine ⟨_, _, _, rfl, enters_of Tryz.func168 (by kernel_rfl) rfl, fun x v W hs hW hR => ?_⟩
  obtain rfl : v = .int .i64 x := hR
  obtain ⟨q, rfl⟩ : ∃ q : Nat, x = q := ⟨x.toNat, by omega⟩
  have hq : q < 8 := by omega
  have hq' : (q : Int) < 8 := by omega
  have hp' : (p : Int) < 8 := by omega
  have hBW := hW.cell hB
  have hXW := hW.cell hX
  have hDW := hW.cell (hd.at_ hq hp)
  show Calls _ _ #[_, _, _] _ _
  go_enter Tryz.func168, Tryz.ntmps168
  go_wp2
  go_quiet (fail)
  go_wp2
  go_ret
  exact ⟨ret_of (bool_of (by simp)), Ext.drewN (Ext.refl _) _⟩

/-- A place counts in a minute. -/
def canC (g : Mat) (f : Fg) (c : Ct) : Nat → Nat → Bool
  | 0, p => memI (p : Int) c.st && decide (0 < restM g f c allF 0 p)
  | m + 1, p => ((canN g f c m).any fun q => decide (g q p ≤ 1)) && decide (0 < restM g f c allF (m + 1) p)
def canP (g : Mat) (f : Fg) (c : Ct) (m p : Nat) : List Nat := (List.range p).filter (canC g f c m)
theorem canN_canP (g : Mat) (f : Fg) (c : Ct) (m : Nat) : canN g f c m = canP g f c m f.pl.toNat := by cases m <;> rfl
theorem canP_succ (g : Mat) (f : Fg) (c : Ct) (m p : Nat) : canP g f c m (p + 1) = canP g f c m p ++ if canC g f c m p then [p] else [] := by
  unfold canP
  rw [List.range_succ, List.filter_append]
  congr 1
  simp only [List.filter_cons, List.filter_nil]
theorem canP_len (g : Mat) (f : Fg) (c : Ct) (m p : Nat) : (canP g f c m p).length ≤ p := Nat.le_trans (List.length_filter_le _ _) (by simp)
theorem natI_app (l m : List Nat) : natI (l ++ m) = natI l ++ natI m := by simp [natI]
theorem natI_len (l : List Nat) : (natI l).length = l.length := by simp [natI]

theorem own_cap {w : World} {base e size n k : Nat} {A : Option Addr} {xs : List Value} (h : w.ownsRow base e size (.slice A n k) n xs) : n ≤ k := by
  rcases h.2 with ⟨h, h2⟩ | ⟨g, cap, cur, h, _, _, h3, _⟩
  · cases h; omega
  · cases h; exact h3
theorem Bel.below {O : Nat} {a b c : World} (h : Bel O a b) (k : Below a.heap.size b c) : Bel O a c := ⟨h.1.trans (Below.mono k (Nat.zero_le _)), fun i hi hne => (Below.block k i hi).trans (h.2 i hi hne)⟩
/-- Not block O. -/
def NotIn (O : Nat) (A : Option Addr) : Prop := ∀ a, A = some a → a.block ≠ O
theorem Ints.bel {O : Nat} {w w' : World} {A : Option Addr} {l : List Int} (h : Ints w A l) (hb : Bel O w w') (hn : NotIn O A) : Ints w' A l := by
  rcases h with h | ⟨b, off, rfl, hc⟩
  · exact .inl h
  · exact .inr ⟨b, off, rfl, fun j u hu => hb.cell (hc j u hu) (show b ≠ O from hn ⟨b, off, none⟩ rfl)⟩
/-- Block O holds slices of numbers. -/
def OutB (w : World) (O : Nat) (rows : List Value) : Prop := w.heap[O]? = some (.cells rows.toArray 37 (0, 0))
theorem OutB.ext {w w' : World} {O : Nat} {rows : List Value} (h : OutB w O rows) (hx : Ext w w') : OutB w' O rows := (Below.block hx O (Array.getElem?_eq_some_iff.1 h).1).trans h
theorem OutB.lt {w : World} {O : Nat} {rows : List Value} (h : OutB w O rows) : O < w.heap.size := (Array.getElem?_eq_some_iff.1 h).1
theorem OutB.cell {w : World} {O : Nat} {rows : List Value} (h : OutB w O rows) (i : Nat) : w.cell? ⟨O, i, none⟩ = rows[i]? := by
  rw [cell_of_row w O i _ _ _ h]; simp
theorem OutB.frozen {w : World} {O : Nat} {rows : List Value} (h : OutB w O rows) (i : Nat) : w.frozen? ⟨O, i, none⟩ = false := by
  unfold OutB at h
  simp [World.frozen?, h]
theorem OutB.set {w : World} {O : Nat} {rows : List Value} (h : OutB w O rows) (i : Nat) (v : Value) : OutB (w.setCell ⟨O, i, none⟩ v) O (rows.set i v) := by
  unfold OutB at h ⊢
  simp only [World.setCell, Array.getElem?_modify, h, if_true, Option.map_some]
  simp
/-- Slices of numbers: so many lists. -/
def IntRows (w : World) (A : Option Addr) (ls : List (List Int)) : Prop := ∃ xs : List Value, Rd w A xs ∧ xs.length = ls.length ∧ ∀ (i : Nat) (l : List Int), ls[i]? = some l → ∃ A' k, xs[i]? = some (.slice A' l.length k) ∧ Ints w A' l ∧ l.length ≤ k
theorem IntRows.ext {w w' : World} {A : Option Addr} {ls : List (List Int)} (h : IntRows w A ls) (hx : Ext w w') : IntRows w' A ls := by
  obtain ⟨xs, h1, h2, h3⟩ := h
  refine ⟨xs, h1.ext hx, h2, fun i l hl => ?_⟩
  obtain ⟨A', k, e1, e2, e3⟩ := h3 i l hl
  exact ⟨A', k, e1, e2.ext hx, e3⟩
theorem IntRows.at_ {w : World} {A : Option Addr} {ls : List (List Int)} {i : Nat} {l : List Int} (h : IntRows w A ls) (hi : ls[i]? = some l) : ∃ b off A' k, A = some ⟨b, off, none⟩ ∧ w.cell? ⟨b, off + i, none⟩ = some (.slice A' l.length k) ∧ Ints w A' l ∧ l.length ≤ k := by
  obtain ⟨xs, h1, h2, h3⟩ := h
  obtain ⟨A', k, e1, e2, e3⟩ := h3 i l hi
  obtain ⟨b, off, hA, hc⟩ := Rd.at_ h1 (by intro e; rw [e] at e1; simp at e1)
  exact ⟨b, off, A', k, hA, hc i _ e1, e2, e3⟩

theorem infoSI : (Tryz.prog.info? 37).map (fun i => (i.zero, i.size, i.bytes)) = some (some (.slice none 0 0), 1, 24) := by kernel_rfl
/-- So many minutes are told. -/
structure OutS (g : Mat) (f : Fg) (c : Ct) (T : Nat) (Wm : World) (O n0 : Nat) (rows : List Value) (w : World) : Prop where
  blk : OutB w O rows
  len : rows.length = T + 1
  old : ∀ i, i < n0 → ∃ A k, rows[i]? = some (.slice A (canN g f c i).length k) ∧ Ints w A (natI (canN g f c i)) ∧ NotIn O A ∧ (canN g f c i).length ≤ k
  new : ∀ i, n0 ≤ i → i < T + 1 → rows[i]? = some (.slice none 0 0)
  bel : Bel O Wm w

def CanPost (w : World) (g : Mat) (f : Fg) (c : Ct) (e : Ending) (w' : World) : Prop := ∃ v, e = .returned v ∧ Ext w w' ∧ (lostF g f c = true → v = .slice none 0 0) ∧ (lostF g f c = false → ∃ A k, v = .slice (some A) (f.mi.toNat + 1) k ∧ IntRows w' (some A) (canL g f c) ∧ f.mi.toNat + 1 ≤ k)

set_option maxRecDepth 100000 in
set_option maxHeartbeats 4000000 in
theorem can_any (D : Nat) (s : Ads) (f : Fg) (g : Mat) (c : Ct) (cv : Value) (w : World) (hd : Dk w D s f g) (hr : FRows w s f) (hok : FogOK f) (hcm : c ∈ f.ct) (hc : CtR w cv c) :
    Calls Tryz.prog 87 #[.pointer (some ⟨D, 0, none⟩), cv] w (CanPost w g f c) := by
  have hc0 := hc
  obtain ⟨A1, c1, A2, c2, rfl, hS, hR, hk1, hk2⟩ := hc
  have HOK := hid hok
  have hpl := hok.pl
  have hmi := hok.mi
  obtain ⟨P, hP⟩ : ∃ P : Nat, f.pl = P := ⟨f.pl.toNat, by omega⟩
  obtain ⟨T, hT⟩ : ∃ T : Nat, f.mi = T := ⟨f.mi.toNat, by omega⟩
  have e0 := hd.pl
  have e1 := hd.mi
  rw [hP] at e0 hpl
  rw [hT] at e1 hmi
  have HP : Hid (f.pl = P ∧ f.pl.toNat = P) := ⟨hP, by omega⟩
  have HT : Hid (f.mi = T ∧ f.mi.toNat = T) := ⟨hT, by omega⟩
  have hDw := hd.lt
  clear hP hT hok
  go_enter Tryz.func87, Tryz.ntmps87
  go_wp2
  obtain ⟨W0, hW0⟩ : ∃ W0, (w.alloc (.cells #[.pointer (some ⟨D, 0, none⟩)] 101)).alloc (.cells #[.slice A1 c.st.length c1, .slice A2 c.rp.length c2] 63) = W0 := ⟨_, rfl⟩
  have hx0 : Ext w W0 := by rw [← hW0]; exact ((Ext.refl w).alloc _).alloc _
  have FX : Hid (∀ w', Ext W0 w' → w'.cell? ⟨w.heap.size, 0, none⟩ = some (.pointer (some ⟨D, 0, none⟩)) ∧ w'.cell? ⟨w.heap.size + 1, 0, none⟩ = some (.slice A1 c.st.length c1) ∧ w'.cell? ⟨w.heap.size + 1, 1, none⟩ = some (.slice A2 c.rp.length c2)) := fun w' h =>
    ⟨h.cell (by rw [← hW0]; simp [go_sem]), h.cell (by rw [← hW0]; simp [go_sem]), h.cell (by rw [← hW0]; simp [go_sem])⟩
  rw [hW0]
  clear hW0
  by_cases hlost : countM g f c allF = 0
  · have hl1 : lostF g f c = true := by unfold lostF; simpa using hlost
    have HL := hid hl1
    have HQ := hid hlost
    clear hl1 hlost
    refine wp_region_shut Ext (fun w' => Ext W0 w') (fun
      | 2 => some (fun v _ => v = .agg #[.func (.func 155) #[] #[]])
      | 3 => some (fun v _ => v = .int .i64 (countM g f c allF))
      | _ => none) (by kernel_rfl) (by kernel_rfl) (fun _ _ h k => h.trans k) ?hTa (Ext.drew (Ext.refl W0)) ?_
    case hTa =>
      intro i R hR
      match i, hR with
      | 2, hR => cases hR; exact fun _ _ _ h _ => h
      | 3, hR => cases hR; exact fun _ _ _ h _ => h
    refine wM_val ?ua0 rfl rfl Ext.refl (fun w' hD => ?ha0) (fun pha0 => ?na0)
    case ha0 =>
      obtain ⟨d0, d1, d2⟩ := FX.out w' hD.1
      go_simp; rfl
    simp only [Act.put, List.setIfInBounds_toArray, List.set_cons_succ, List.set_cons_zero, Nat.reduceAdd]
    refine wM_val ?ua1 rfl rfl Ext.refl (fun w' hD => ?ha1) (fun pha1 => ?na1)
    case ha1 =>
      obtain ⟨d0, d1, d2⟩ := FX.out w' hD.1
      go_simp; rfl
    simp only [Act.put, List.setIfInBounds_toArray, List.set_cons_succ, List.set_cons_zero, Nat.reduceAdd]
    refine wM_op _ rfl rfl (opens_call ?fa2 ?ga2 (fun w' hD => ?ha2) (fun w' hD => ?ca2)) (fun v2 hv2 => ?na2)
    case ha2 => go_simp; constructor <;> rfl
    case ca2 =>
      refine (alls_any w').mono ?_
      rintro e w2 ⟨rfl, hb⟩
      exact ⟨_, rfl, hb, rfl⟩
    obtain ⟨_, -, -, rfl⟩ := hv2
    simp only [Act.put, List.setIfInBounds_toArray, List.set_cons_succ, List.set_cons_zero, Nat.reduceAdd]
    refine wM_op _ rfl rfl (opens_call ?fa3 ?ga3 (fun w' hD => ?ha3) (fun w' hD => ?ca3)) (fun v3 hv3 => ?na3)
    case ha3 => go_simp; constructor <;> rfl
    case ca3 =>
      refine (count_any D s f g c (.agg #[.slice A1 c.st.length c1, .slice A2 c.rp.length c2]) (.func (.func 155) #[] #[]) allF w' (hd.ext (hx0.trans hD.1)) (hr.ext (hx0.trans hD.1)) HOK.out hcm (hc0.ext (hx0.trans hD.1)) (all1_fn _)).mono ?_
      rintro e w2 ⟨rfl, hb⟩
      exact ⟨_, rfl, hb, rfl⟩
    obtain ⟨_, -, -, rfl⟩ := hv3
    simp only [Act.put, List.setIfInBounds_toArray, List.set_cons_succ, List.set_cons_zero, Nat.reduceAdd]
    refine wM_val ?ua4 rfl rfl Ext.refl (fun w' hD => ?ha4) (fun pha4 => ?na4)
    case ha4 =>
      obtain ⟨d0, d1, d2⟩ := FX.out w' hD.1
      go_simp; rfl
    simp only [Act.put, List.setIfInBounds_toArray, List.set_cons_succ, List.set_cons_zero, Nat.reduceAdd]
    refine wM_nil ?_
    intro w9 hw9 hF9
    rw [HQ.out]
    go_wp2
    go_ret
    exact ⟨_, rfl, hx0.trans hw9, fun _ => rfl, fun h => by rw [HL.out] at h; cases h⟩
  · have hl1 : lostF g f c = false := by unfold lostF; simpa using hlost
    have HL := hid hl1
    have hq : (countM g f c allF == 0) = false := by simpa using hlost
    have HQ := hid hq
    clear hl1 hlost hq
    refine wp_region_shut Ext (fun w' => Ext W0 w') (fun
      | 2 => some (fun v _ => v = .agg #[.func (.func 155) #[] #[]])
      | 3 => some (fun v _ => v = .int .i64 (countM g f c allF))
      | _ => none) (by kernel_rfl) (by kernel_rfl) (fun _ _ h k => h.trans k) ?hTaa (Ext.drew (Ext.refl W0)) ?_
    case hTaa =>
      intro i R hR
      match i, hR with
      | 2, hR => cases hR; exact fun _ _ _ h _ => h
      | 3, hR => cases hR; exact fun _ _ _ h _ => h
    refine wM_val ?uaa0 rfl rfl Ext.refl (fun w' hD => ?haa0) (fun phaa0 => ?naa0)
    case haa0 =>
      obtain ⟨d0, d1, d2⟩ := FX.out w' hD.1
      go_simp; rfl
    simp only [Act.put, List.setIfInBounds_toArray, List.set_cons_succ, List.set_cons_zero, Nat.reduceAdd]
    refine wM_val ?uaa1 rfl rfl Ext.refl (fun w' hD => ?haa1) (fun phaa1 => ?naa1)
    case haa1 =>
      obtain ⟨d0, d1, d2⟩ := FX.out w' hD.1
      go_simp; rfl
    simp only [Act.put, List.setIfInBounds_toArray, List.set_cons_succ, List.set_cons_zero, Nat.reduceAdd]
    refine wM_op _ rfl rfl (opens_call ?faa2 ?gaa2 (fun w' hD => ?haa2) (fun w' hD => ?caa2)) (fun v2 hv2 => ?naa2)
    case haa2 => go_simp; constructor <;> rfl
    case caa2 =>
      refine (alls_any w').mono ?_
      rintro e w2 ⟨rfl, hb⟩
      exact ⟨_, rfl, hb, rfl⟩
    obtain ⟨_, -, -, rfl⟩ := hv2
    simp only [Act.put, List.setIfInBounds_toArray, List.set_cons_succ, List.set_cons_zero, Nat.reduceAdd]
    refine wM_op _ rfl rfl (opens_call ?faa3 ?gaa3 (fun w' hD => ?haa3) (fun w' hD => ?caa3)) (fun v3 hv3 => ?naa3)
    case haa3 => go_simp; constructor <;> rfl
    case caa3 =>
      refine (count_any D s f g c (.agg #[.slice A1 c.st.length c1, .slice A2 c.rp.length c2]) (.func (.func 155) #[] #[]) allF w' (hd.ext (hx0.trans hD.1)) (hr.ext (hx0.trans hD.1)) HOK.out hcm (hc0.ext (hx0.trans hD.1)) (all1_fn _)).mono ?_
      rintro e w2 ⟨rfl, hb⟩
      exact ⟨_, rfl, hb, rfl⟩
    obtain ⟨_, -, -, rfl⟩ := hv3
    simp only [Act.put, List.setIfInBounds_toArray, List.set_cons_succ, List.set_cons_zero, Nat.reduceAdd]
    refine wM_val ?uaa4 rfl rfl Ext.refl (fun w' hD => ?haa4) (fun phaa4 => ?naa4)
    case haa4 =>
      obtain ⟨d0, d1, d2⟩ := FX.out w' hD.1
      go_simp; rfl
    simp only [Act.put, List.setIfInBounds_toArray, List.set_cons_succ, List.set_cons_zero, Nat.reduceAdd]
    refine wM_nil ?_
    intro w9 hw9 hF9
    rw [HQ.out]
    have hx1 := hx0.trans hw9
    have FX9 : Hid (∀ w', Ext w9 w' → w'.cell? ⟨w.heap.size, 0, none⟩ = some (.pointer (some ⟨D, 0, none⟩)) ∧ w'.cell? ⟨w.heap.size + 1, 0, none⟩ = some (.slice A1 c.st.length c1) ∧ w'.cell? ⟨w.heap.size + 1, 1, none⟩ = some (.slice A2 c.rp.length c2)) := fun w' h => FX.out w' (hw9.trans h)
    obtain ⟨W1, hW1⟩ : ∃ W1 : World, W1 = w9 := ⟨_, rfl⟩
    rw [← hW1] at hx1 FX9 ⊢
    clear hW1 hF9 hw9 FX
    go_wp2
    refine wp_region_shut Ext (fun w' => Ext W1 w') (fun
      | 2 => some (fun v _ => v = .agg #[.func (.func 155) #[] #[]])
      | 3 => some (fun v wz => ∃ M, v = .map (some M) ∧ MapSp wz M 100000 (restV g f c allF (f.mi.toNat + 1) 0))
      | _ => none) (by kernel_rfl) (by kernel_rfl) (fun _ _ h k => h.trans k) ?hTb (Ext.drew (Ext.refl W1)) ?_
    case hTb =>
      intro i R hR
      match i, hR with
      | 2, hR => cases hR; exact fun _ _ _ h _ => h
      | 3, hR => cases hR; exact fun _ _ _ ⟨M, h1, h2⟩ k => ⟨M, h1, h2.ext k⟩
    refine wM_val ?ub0 rfl rfl Ext.refl (fun w' hD => ?hb0) (fun phb0 => ?nb0)
    case hb0 =>
      obtain ⟨d0, d1, d2⟩ := FX9.out w' hD.1
      go_simp; rfl
    simp only [Act.put, List.setIfInBounds_toArray, List.set_cons_succ, List.set_cons_zero, Nat.reduceAdd]
    refine wM_val ?ub1 rfl rfl Ext.refl (fun w' hD => ?hb1) (fun phb1 => ?nb1)
    case hb1 =>
      obtain ⟨d0, d1, d2⟩ := FX9.out w' hD.1
      go_simp; rfl
    simp only [Act.put, List.setIfInBounds_toArray, List.set_cons_succ, List.set_cons_zero, Nat.reduceAdd]
    refine wM_op _ rfl rfl (opens_call ?fb2 ?gb2 (fun w' hD => ?hb2) (fun w' hD => ?cb2)) (fun v2 hv2 => ?nb2)
    case hb2 => go_simp; constructor <;> rfl
    case cb2 =>
      refine (alls_any w').mono ?_
      rintro e w2 ⟨rfl, hb⟩
      exact ⟨_, rfl, hb, rfl⟩
    obtain ⟨_, -, -, rfl⟩ := hv2
    simp only [Act.put, List.setIfInBounds_toArray, List.set_cons_succ, List.set_cons_zero, Nat.reduceAdd]
    refine wM_op _ rfl rfl (opens_call ?fb3 ?gb3 (fun w' hD => ?hb3) (fun w' hD => ?cb3)) (fun v3 hv3 => ?nb3)
    case hb3 => go_simp; constructor <;> rfl
    case cb3 =>
      refine (rests_any D s f g c (.agg #[.slice A1 c.st.length c1, .slice A2 c.rp.length c2]) (.func (.func 155) #[] #[]) allF w' (hd.ext (hx1.trans hD.1)) (hr.ext (hx1.trans hD.1)) HOK.out hcm (hc0.ext (hx1.trans hD.1)) (all1_fn _)).mono ?_
      rintro e w2 ⟨M, rfl, hb, -, hM⟩
      exact ⟨_, rfl, hb, M, rfl, hM⟩
    obtain ⟨_, -, -, M, rfl, -⟩ := hv3
    simp only [Act.put, List.setIfInBounds_toArray, List.set_cons_succ, List.set_cons_zero, Nat.reduceAdd]
    refine wM_val ?ub4 rfl rfl Ext.refl (fun w' hD => ?hb4) (fun phb4 => ?nb4)
    case hb4 =>
      obtain ⟨d0, d1, d2⟩ := FX9.out w' hD.1
      go_simp; rfl
    simp only [Act.put, List.setIfInBounds_toArray, List.set_cons_succ, List.set_cons_zero, Nat.reduceAdd]
    refine wM_nil ?_
    intro w9 hw9 hF9
    obtain ⟨-, M', e3, hM⟩ := hF9 3
    obtain rfl : M = M' := by cases e3; rfl
    have hx2 := hx1.trans hw9
    obtain ⟨d0, d1, d2⟩ := FX9.out w9 hw9
    have g0 := hx2.cell e0
    have g1 := hx2.cell e1
    clear hF9
    obtain ⟨i, hi, hz, hsize, hby⟩ := info_parts infoSI
    have hb2 : i.bytes * (T + 1) ≤ 281474976710656 := by rw [hby]; omega
    have hm2 : T + 1 ≤ maxLen := by unfold maxLen; omega
    have H2 := hid hm2
    have H3 := hid hb2
    have H4 := hid hi
    have H5 := hid hz
    have H6 := hid hsize
    have H7 : Hid (((T : Int) + 1) = ((T + 1 : Nat) : Int)) := by unfold Hid; omega
    clear hm2 hb2 hi hz hsize hby
    go_wp2_with (at_make; refine wpList_make_full _ rfl _ _ 66 rfl w9.heap.size 37 i (.slice none 0 0) 1 Tryz.underlying66 H4.out H5.out H6.out .i64 .i64 _ _ (T + 1) rfl rfl H7.out H7.out H3.out H2.out (Nat.le_refl _) ?_)
    intro Wm hown hgr
    have hxm : Ext w9 Wm := Ext.grown (Ext.refl _) hgr (fun k e => by cases e)
    obtain ⟨O, hO⟩ : ∃ O, w9.heap.size = O := ⟨_, rfl⟩
    have hout : OutB Wm O (List.replicate (T + 1) (.slice none 0 0)) := by
      rcases hown.2 with ⟨h, _⟩ | ⟨gg, cap, cur, e, hbg, hh, _, _, hcz, htk⟩
      · cases h
      · cases e
        unfold OutB
        rw [← hO, hh]
        congr 2
        have h9 : cur.toList = List.replicate (T + 1) (.slice none 0 0) := by
          rw [toList_madeCells_one] at htk
          rw [List.take_of_length_le (by simp [hcz])] at htk
          simpa using htk
        rw [← h9]
    have hxM := hx2.trans hxm
    have hMm := hM.ext hxm
    have hMO : M ≠ O := by have := hM.lt; omega
    have FM : Hid (∀ w', Bel O Wm w' → w'.cell? ⟨w.heap.size, 0, none⟩ = some (.pointer (some ⟨D, 0, none⟩)) ∧ w'.cell? ⟨w.heap.size + 1, 0, none⟩ = some (.slice A1 c.st.length c1) ∧ w'.cell? ⟨D, 0, none⟩ = some (.int .i64 (P : Int)) ∧ w'.cell? ⟨D, 1, none⟩ = some (.int .i64 (T : Int)) ∧ Ext w w' ∧ MapSp w' M 100000 (restV g f c allF (f.mi.toNat + 1) 0)) := fun w' h => by
      have hz := hx2.size
      have hzz := hx0.size
      have hzw := World.block_lt_of_cell? w9 _ d1
      simp only at hzw
      exact ⟨h.cell (hxm.cell d0) (by simp; omega), h.cell (hxm.cell d1) (by simp; omega), h.cell (hxm.cell g0) (by simp; omega), h.cell (hxm.cell g1) (by simp; omega), hxM.then_bel (by omega) h, hMm.bel h hMO⟩
    have HOUT := hid hout
    rw [hO]
    clear hout hown hgr hxm hM hMm d0 d1 d2 g0 g1 e0 e1 FX9
    obtain ⟨y0, y1, y2, y3, -, -⟩ := FM.out Wm (Bel.refl _ _)
    go_wp2
    go_loopw [34] (fun i34 wr => ∃ (n0 : Nat) (rows : List Value), n0 ≤ T + 1 ∧ i34 = .int .i64 (n0 : Int) ∧ OutS g f c T Wm O n0 rows wr) (fun i _ => T + 1 - (intOf i).toNat)
    case atStart => exact ⟨0, _, Nat.zero_le _, rfl, ⟨HOUT.out, by simp, fun i h => by omega, fun i _ h => by simp [h], Bel.refl _ _⟩⟩
    case round =>
      obtain ⟨n0, rows, hn0, rfl, hos⟩ := hrel
      obtain ⟨z0, z1, z2, z3, hxw, hMr⟩ := FM.out wr hos.bel
      have HOS := hid hos
      by_cases hlt : n0 < T + 1
      · have hlt' : (n0 : Int) < (T : Int) + 1 := by omega
        clear hos
        go_wp2
        obtain ⟨Wb, hWb⟩ : ∃ Wb : World, Wb = wr := ⟨_, rfl⟩
        subst hWb
        go_loopw [43] (fun i43 V => ∃ p0 : Nat, p0 ≤ P ∧ i43 = .int .i64 (p0 : Int) ∧ ∃ A k n, OutB V O (rows.set n0 (.slice A n k)) ∧ V.ownsRow Wb.heap.size 3 1 (.slice A n k) n ((natI (canP g f c n0 p0)).map (.int .i64)) ∧ n = (canP g f c n0 p0).length ∧ Bel O Wb V) (fun i _ => P - (intOf i).toNat)
        case atStart =>
          refine ⟨0, Nat.zero_le _, rfl, none, 0, 0, ?_, own_nil _ _ _ _, rfl, Bel.refl _ _⟩
          have h := HOS.out.new n0 (Nat.le_refl _) hlt
          have : rows.set n0 (.slice none 0 0) = rows := by
            apply List.ext_getElem?
            intro j
            rw [List.getElem?_set]
            split
            · rename_i e; subst e
              have hh : n0 < rows.length := by rw [HOS.out.len]; exact hlt
              rw [if_pos hh, h]
            · rfl
          rw [this]; exact HOS.out.blk
        case round =>
          obtain ⟨p0, hp0, rfl, A, k, n, hOv, ownv, hn, hbV⟩ := hrel
          obtain ⟨V, hVr⟩ : ∃ V : World, V = wr := ⟨_, rfl⟩
          subst hVr
          by_cases hltp : p0 < P
          · have hltp' : (p0 : Int) < (P : Int) := by omega
            have hp8 : p0 < 8 := by omega
            have hbm := HOS.out.bel.trans hbV
            obtain ⟨v0, v1, v2, v3, hxv, hMv⟩ := FM.out V hbm
            have hOb := HOS.out.blk.lt
            have hnn : n ≤ 8 := by rw [hn]; exact Nat.le_trans (canP_len _ _ _ _ _) (by omega)
            have HNL := hid hn
            clear hn
            obtain ⟨X, hX⟩ : ∃ X, V.heap.size = X := ⟨_, rfl⟩
            obtain ⟨W3, hW3⟩ : ∃ W3, V.alloc (.cells #[.int .i64 (p0 : Int)] 3) = W3 := ⟨_, rfl⟩
            have hx3 : Ext V W3 := by rw [← hW3]; exact Ext.alloc (Ext.refl _) _
            have hX3 : W3.cell? ⟨X, 0, none⟩ = some (.int .i64 (p0 : Int)) := by rw [← hW3, ← hX]; simp [go_sem]
            have HOV := hid hOv
            have HOW := hid ownv
            by_cases hz : n0 = 0
            · have hz0 : ((n0 : Int) == 0) = true := by simp [hz]
              have hz1 : ¬ (n0 : Int) > 0 := by omega
              have hz2 : decide ((n0 : Int) > 0) = false := by simpa using hz1
              have u1 := hx3.cell v1
              have HFR : Hid (canC g f c n0 p0 = (memI (p0 : Int) c.st && decide (0 < restM g f c allF n0 p0))) := by unfold Hid; rw [hz]; rfl
              clear hOv ownv hz
              go_wp2_with fail
              try rw [hW3]
              refine (containsI_any (p0 : Int) A1 c1 c.st W3 (hS.ext (hxv.trans hx3)) (by have := st_len HOK.out hcm; omega)).mono ?_
              rintro e W5 ⟨rfl, hw5⟩
              subst hw5
              obtain ⟨fr, hfr⟩ : ∃ fr, memI (p0 : Int) c.st = fr := ⟨_, rfl⟩
              rw [hfr] at HFR ⊢
              have hx5 := hx3
              have hX5 := hX3
              have hb5 := hbV.trans (hx5.bel (D := O))
              have hO5 := HOV.out.ext hx5
              have own5 := own_below HOW.out hx5
              have hlk := (FM.out W3 (hbm.trans (hx5.bel (D := O)))).2.2.2.2.2.look (m := n0) (p := p0) (by omega) (by omega)
              rw [restV_done (by rw [HP.out.2]; exact hltp) (by rw [HT.out.2]; omega) (by omega)] at hlk
              unfold spotV at hlk
              obtain ⟨W5, hW5⟩ : ∃ W5, W3 = W5 := ⟨_, rfl⟩
              rw [hW5] at hx5 hX5 hb5 hO5 own5 hlk ⊢
              clear hW3 hfr hX3 hx3 u1 hW5
              have hc5 : (rows.set n0 (.slice A n k))[n0]? = some (.slice A n k) := by rw [List.getElem?_set, if_pos rfl, if_pos (by rw [HOS.out.len]; exact hlt)]
              have c5 := hO5.cell n0
              rw [hc5] at c5
              obtain ⟨r, hrr⟩ : ∃ r, restM g f c allF n0 p0 = r := ⟨_, rfl⟩
              rw [hrr] at hlk HFR
              cases fr
              · have HN : Hid (canP g f c n0 (p0 + 1) = canP g f c n0 p0) := by unfold Hid; rw [canP_succ, HFR.out]; simp
                go_wp2
                go_roundw
                case rel => exact ⟨p0 + 1, by omega, by go_num, A, k, n, hO5, by rw [HN.out]; exact own5, by rw [HN.out]; exact HNL.out, hb5⟩
                case measure => simp [intOf]; omega
              · by_cases hr0 : 0 < r
                · have HN : Hid (canP g f c n0 (p0 + 1) = canP g f c n0 p0 ++ [p0]) := by unfold Hid; rw [canP_succ, HFR.out]; simp [hr0]
                  have hrd : decide (0 < r) = true := by simpa using hr0
                  have FY : Hid (∀ w', Ext W5 w' → w'.cell? ⟨O, n0, none⟩ = some (.slice A n k) ∧ w'.cell? ⟨X, 0, none⟩ = some (.int .i64 (p0 : Int))) := fun w' h => ⟨h.cell c5, h.cell hX5⟩
                  go_wp2
                  refine wp_region_shut_edges Ext (fun w' => Ext W5 w') (fun
                    | 7 => some (fun v w => ∃ B7, v = .slice (some ⟨B7, 0, none⟩) 1 1 ∧ w.cell? ⟨B7, 0, none⟩ = some (.int .i64 (p0 : Int)))
                    | _ => none) 8 [0, 1] (by kernel_rfl) rfl (by kernel_rfl) (fun _ _ _ _ _ h => h) (by kernel_rfl) (fun _ _ h k => h.trans k) ?hTA (Ext.drew (Ext.refl W5)) ?_
                  case hTA =>
                    intro i R hR
                    match i, hR with
                    | 7, hR => cases hR; exact fun _ _ _ ⟨B7, e1, e2⟩ k => ⟨B7, e1, k.cell e2⟩
                  simp only [addEdges, addEdge, edged, List.push_toArray, List.cons_append, List.nil_append]
                  refine wM_val ?urA0 rfl rfl Ext.refl (fun w' hD => ?hrA0) (fun phrA0 => ?nrA0)
                  case hrA0 =>
                    obtain ⟨d0, d1⟩ := FY.out w' hD.1
                    go_simp; rfl
                  simp only [Act.put, List.setIfInBounds_toArray, List.set_cons_succ, List.set_cons_zero, Nat.reduceAdd]
                  refine wM_val ?urA1 rfl rfl Ext.refl (fun w' hD => ?hrA1) (fun phrA1 => ?nrA1)
                  case hrA1 =>
                    obtain ⟨d0, d1⟩ := FY.out w' hD.1
                    go_simp; rfl
                  simp only [Act.put, List.setIfInBounds_toArray, List.set_cons_succ, List.set_cons_zero, Nat.reduceAdd]
                  refine wM_val ?urA2 rfl rfl Ext.refl (fun w' hD => ?hrA2) (fun phrA2 => ?nrA2)
                  case hrA2 =>
                    obtain ⟨d0, d1⟩ := FY.out w' hD.1
                    go_simp; rfl
                  simp only [Act.put, List.setIfInBounds_toArray, List.set_cons_succ, List.set_cons_zero, Nat.reduceAdd]
                  refine wM_val ?urA3 rfl rfl Ext.refl (fun w' hD => ?hrA3) (fun phrA3 => ?nrA3)
                  case hrA3 =>
                    obtain ⟨d0, d1⟩ := FY.out w' hD.1
                    go_simp; rfl
                  simp only [Act.put, List.setIfInBounds_toArray, List.set_cons_succ, List.set_cons_zero, Nat.reduceAdd]
                  refine wM_val ?urA4 rfl rfl Ext.refl (fun w' hD => ?hrA4) (fun phrA4 => ?nrA4)
                  case hrA4 =>
                    obtain ⟨d0, d1⟩ := FY.out w' hD.1
                    go_simp; rfl
                  simp only [Act.put, List.setIfInBounds_toArray, List.set_cons_succ, List.set_cons_zero, Nat.reduceAdd]
                  refine wM_val ?urA5 rfl rfl Ext.refl (fun w' hD => ?hrA5) (fun phrA5 => ?nrA5)
                  case hrA5 =>
                    obtain ⟨d0, d1⟩ := FY.out w' hD.1
                    go_simp; rfl
                  simp only [Act.put, List.setIfInBounds_toArray, List.set_cons_succ, List.set_cons_zero, Nat.reduceAdd]
                  refine wM_val ?urA6 rfl rfl Ext.refl (fun w' hD => ?hrA6) (fun phrA6 => ?nrA6)
                  case hrA6 =>
                    obtain ⟨d0, d1⟩ := FY.out w' hD.1
                    go_simp; rfl
                  simp only [Act.put, List.setIfInBounds_toArray, List.set_cons_succ, List.set_cons_zero, Nat.reduceAdd]
                  refine wM_op _ rfl rfl (opens_val (fun w' hD => ?hrA7)) (fun v7 hv7 => ?nrA7)
                  case hrA7 =>
                    refine ⟨.slice (some ⟨w'.heap.size, 0, none⟩) 1 1, w'.alloc (.cells #[.int .i64 (p0 : Int)] 3), ?_, Ext.alloc (Ext.refl _) _, w'.heap.size, rfl, by simp [go_sem]⟩
                    go_simp
                  obtain ⟨_, -, -, B7, rfl, -⟩ := hv7
                  simp only [Act.put, List.setIfInBounds_toArray, List.set_cons_succ, List.set_cons_zero, Nat.reduceAdd]
                  refine wM_nil ?_
                  intro w9 hw9 hF9
                  obtain ⟨-, B8, e8, hB8⟩ := hF9 7
                  cases e8
                  have hO9 := hO5.ext hw9
                  have own9 := own_below own5 hw9
                  have hb9 := hb5.trans (hw9.bel (D := O))
                  have hsz9 := hb9.size
                  have hnb : (n + 1) * 8 ≤ 140737488355328 := by omega
                  have hrdB : Rd w9 (some ⟨B7, 0, none⟩) [.int .i64 (p0 : Int)] := .inr ⟨B7, 0, rfl, fun j u hu => by
                    match j, hu with
                    | 0, hu => cases hu; exact hB8⟩
                  have OWN9 := hid own9
                  have HB9 := hid hb9
                  have HO9 := hid hO9
                  clear hF9
                  simp only [List.drop_succ_cons, List.drop_zero]
                  go_wp2_with (at_builtin; refine wpList_append_rd2 _ rfl _ _ 37 rfl elem_int Wb.heap.size _ n _ rfl OWN9.out (some ⟨B7, 0, none⟩) 1 1 [.int .i64 (p0 : Int)] rfl rfl hrdB (by simp [Value.oneCell']) hnb hsz9 ?_)
                  intro A6 k6 W6 own6 hbel6 hgr6 hloc6
                  have hb6 := HB9.out.below hbel6
                  have hO6 : OutB W6 O (rows.set n0 (.slice A n k)) := (Below.block hbel6 O hOb).trans HO9.out
                  have c6 := hO6.cell n0
                  rw [hc5] at c6
                  have f6 := hO6.frozen n0
                  have hb7 := (Bel.refl O W6).setCell n0 (.slice A6 (n + 1) k6)
                  have hO7 := hO6.set n0 (.slice A6 (n + 1) k6)
                  rw [List.set_set] at hO7
                  have own7 := hb7.own own6 (fun g hg => by have := (own6.lt g hg).1; omega)
                  have hb8 := hb6.trans hb7
                  have hn1 : Hid (n + 1 = (canP g f c n0 (p0 + 1)).length) := by unfold Hid; rw [HN.out, List.length_append, ← HNL.out]; rfl
                  have own8 : (W6.setCell ⟨O, n0, none⟩ (.slice A6 (n + 1) k6)).ownsRow Wb.heap.size 3 1 (.slice A6 (n + 1) k6) (n + 1) ((natI (canP g f c n0 (p0 + 1))).map (.int .i64)) := by
                    rw [HN.out, natI_app, List.map_append]
                    exact own7
                  clear own5 own6 own7 hb6 hb7 hO6 OWN9 HB9 HO9 hO9 own9 hb9 hrdB
                  go_wp2
                  go_roundw
                  case rel => exact ⟨p0 + 1, by omega, by go_num, A6, k6, n + 1, hO7, own8, hn1.out, hb8⟩
                  case measure => simp [intOf]; omega
                · have HN : Hid (canP g f c n0 (p0 + 1) = canP g f c n0 p0) := by unfold Hid; rw [canP_succ, HFR.out]; simp [hr0]
                  have hrd : decide (0 < r) = false := by simpa using hr0
                  go_wp2
                  go_roundw
                  case rel => exact ⟨p0 + 1, by omega, by go_num, A, k, n, hO5, by rw [HN.out]; exact own5, by rw [HN.out]; exact HNL.out, hb5⟩
                  case measure => simp [intOf]; omega
            · obtain ⟨m1, hm1⟩ : ∃ m1, n0 = m1 + 1 := ⟨n0 - 1, by omega⟩
              have hz0 : ((n0 : Int) == 0) = false := by simp; omega
              have hz1 : (n0 : Int) > 0 := by omega
              have hsub : (n0 : Int) - 1 = (m1 : Int) := by omega
              have hmT : (m1 : Int) < (T : Int) + 1 := by omega
              obtain ⟨A4, k4, hr4, hI4, hN4, hk4⟩ := HOS.out.old m1 (by omega)
              have c4 : V.cell? ⟨O, m1, none⟩ = some (.slice A4 (canN g f c m1).length k4) := by
                rw [hOv.cell, List.getElem?_set, if_neg (by omega)]; exact hr4
              have c4o := hx3.cell c4
              have HFR : Hid (canC g f c n0 p0 = (((canN g f c m1).any fun q => decide (g q p0 ≤ 1)) && decide (0 < restM g f c allF n0 p0))) := by unfold Hid; rw [hm1]; rfl
              clear hOv ownv hz hm1
              go_wp2_with fail
              try rw [hW3]
              have hcl : (natI (canN g f c m1)).length = (canN g f c m1).length := natI_len _
              have hcon := containsFunc_int A4 k4 (natI (canN g f c m1)) _ _ _ W3 ((hI4.bel hbV hN4).ext hx3) (by rw [hcl]; exact Nat.le_trans (by rw [canN_canP]; exact canP_len _ _ _ _ _) (by rw [HP.out.2]; omega))
                (fun x hx => by
                  unfold natI at hx
                  obtain ⟨q, hq, rfl⟩ := List.mem_map.1 hx
                  rw [canN_canP] at hq
                  have := List.mem_filter.1 hq
                  have h2 := List.mem_range.1 this.1
                  rw [HP.out.2] at h2
                  exact ⟨by omega, by omega⟩) (can1_fn W3 w.heap.size X D s f g p0 ((hd.ext hxv).ext hx3) hp8 (hx3.cell v0) hX3)
              rw [hcl] at hcon
              try rw [hX]
              refine hcon.mono ?_
              rintro e W5 ⟨rfl, hb35⟩
              have hany : ((natI (canN g f c m1)).any fun q => decide (g q.toNat p0 ≤ 1)) = ((canN g f c m1).any fun q => decide (g q p0 ≤ 1)) := by
                unfold natI; rw [List.any_map]; rfl
              rw [hany]
              obtain ⟨fr, hfr⟩ : ∃ fr, ((canN g f c m1).any fun q => decide (g q p0 ≤ 1)) = fr := ⟨_, rfl⟩
              rw [hfr] at HFR ⊢
              have hx5 := hx3.trans hb35
              have hX5 := hb35.cell hX3
              have hb5 := hbV.trans (hx5.bel (D := O))
              have hO5 := HOV.out.ext hx5
              have own5 := own_below HOW.out hx5
              have hlk := (FM.out W5 (hbm.trans (hx5.bel (D := O)))).2.2.2.2.2.look (m := n0) (p := p0) (by omega) (by omega)
              rw [restV_done (by rw [HP.out.2]; exact hltp) (by rw [HT.out.2]; omega) (by omega)] at hlk
              unfold spotV at hlk
              clear hW3 hfr hX3 hx3 hb35 hany hcon hcl c4 c4o
              have hc5 : (rows.set n0 (.slice A n k))[n0]? = some (.slice A n k) := by rw [List.getElem?_set, if_pos rfl, if_pos (by rw [HOS.out.len]; exact hlt)]
              have c5 := hO5.cell n0
              rw [hc5] at c5
              obtain ⟨r, hrr⟩ : ∃ r, restM g f c allF n0 p0 = r := ⟨_, rfl⟩
              rw [hrr] at hlk HFR
              cases fr
              · have HN : Hid (canP g f c n0 (p0 + 1) = canP g f c n0 p0) := by unfold Hid; rw [canP_succ, HFR.out]; simp
                go_wp2
                go_roundw
                case rel => exact ⟨p0 + 1, by omega, by go_num, A, k, n, hO5, by rw [HN.out]; exact own5, by rw [HN.out]; exact HNL.out, hb5⟩
                case measure => simp [intOf]; omega
              · by_cases hr0 : 0 < r
                · have HN : Hid (canP g f c n0 (p0 + 1) = canP g f c n0 p0 ++ [p0]) := by unfold Hid; rw [canP_succ, HFR.out]; simp [hr0]
                  have hrd : decide (0 < r) = true := by simpa using hr0
                  have FY : Hid (∀ w', Ext W5 w' → w'.cell? ⟨O, n0, none⟩ = some (.slice A n k) ∧ w'.cell? ⟨X, 0, none⟩ = some (.int .i64 (p0 : Int))) := fun w' h => ⟨h.cell c5, h.cell hX5⟩
                  go_wp2
                  refine wp_region_shut_edges Ext (fun w' => Ext W5 w') (fun
                    | 7 => some (fun v w => ∃ B7, v = .slice (some ⟨B7, 0, none⟩) 1 1 ∧ w.cell? ⟨B7, 0, none⟩ = some (.int .i64 (p0 : Int)))
                    | _ => none) 8 [0, 1] (by kernel_rfl) rfl (by kernel_rfl) (fun _ _ _ _ _ h => h) (by kernel_rfl) (fun _ _ h k => h.trans k) ?hTB (Ext.drew (Ext.refl W5)) ?_
                  case hTB =>
                    intro i R hR
                    match i, hR with
                    | 7, hR => cases hR; exact fun _ _ _ ⟨B7, e1, e2⟩ k => ⟨B7, e1, k.cell e2⟩
                  simp only [addEdges, addEdge, edged, List.push_toArray, List.cons_append, List.nil_append]
                  refine wM_val ?urB0 rfl rfl Ext.refl (fun w' hD => ?hrB0) (fun phrB0 => ?nrB0)
                  case hrB0 =>
                    obtain ⟨d0, d1⟩ := FY.out w' hD.1
                    go_simp; rfl
                  simp only [Act.put, List.setIfInBounds_toArray, List.set_cons_succ, List.set_cons_zero, Nat.reduceAdd]
                  refine wM_val ?urB1 rfl rfl Ext.refl (fun w' hD => ?hrB1) (fun phrB1 => ?nrB1)
                  case hrB1 =>
                    obtain ⟨d0, d1⟩ := FY.out w' hD.1
                    go_simp; rfl
                  simp only [Act.put, List.setIfInBounds_toArray, List.set_cons_succ, List.set_cons_zero, Nat.reduceAdd]
                  refine wM_val ?urB2 rfl rfl Ext.refl (fun w' hD => ?hrB2) (fun phrB2 => ?nrB2)
                  case hrB2 =>
                    obtain ⟨d0, d1⟩ := FY.out w' hD.1
                    go_simp; rfl
                  simp only [Act.put, List.setIfInBounds_toArray, List.set_cons_succ, List.set_cons_zero, Nat.reduceAdd]
                  refine wM_val ?urB3 rfl rfl Ext.refl (fun w' hD => ?hrB3) (fun phrB3 => ?nrB3)
                  case hrB3 =>
                    obtain ⟨d0, d1⟩ := FY.out w' hD.1
                    go_simp; rfl
                  simp only [Act.put, List.setIfInBounds_toArray, List.set_cons_succ, List.set_cons_zero, Nat.reduceAdd]
                  refine wM_val ?urB4 rfl rfl Ext.refl (fun w' hD => ?hrB4) (fun phrB4 => ?nrB4)
                  case hrB4 =>
                    obtain ⟨d0, d1⟩ := FY.out w' hD.1
                    go_simp; rfl
                  simp only [Act.put, List.setIfInBounds_toArray, List.set_cons_succ, List.set_cons_zero, Nat.reduceAdd]
                  refine wM_val ?urB5 rfl rfl Ext.refl (fun w' hD => ?hrB5) (fun phrB5 => ?nrB5)
                  case hrB5 =>
                    obtain ⟨d0, d1⟩ := FY.out w' hD.1
                    go_simp; rfl
                  simp only [Act.put, List.setIfInBounds_toArray, List.set_cons_succ, List.set_cons_zero, Nat.reduceAdd]
                  refine wM_val ?urB6 rfl rfl Ext.refl (fun w' hD => ?hrB6) (fun phrB6 => ?nrB6)
                  case hrB6 =>
                    obtain ⟨d0, d1⟩ := FY.out w' hD.1
                    go_simp; rfl
                  simp only [Act.put, List.setIfInBounds_toArray, List.set_cons_succ, List.set_cons_zero, Nat.reduceAdd]
                  refine wM_op _ rfl rfl (opens_val (fun w' hD => ?hrB7)) (fun v7 hv7 => ?nrB7)
                  case hrB7 =>
                    refine ⟨.slice (some ⟨w'.heap.size, 0, none⟩) 1 1, w'.alloc (.cells #[.int .i64 (p0 : Int)] 3), ?_, Ext.alloc (Ext.refl _) _, w'.heap.size, rfl, by simp [go_sem]⟩
                    go_simp
                  obtain ⟨_, -, -, B7, rfl, -⟩ := hv7
                  simp only [Act.put, List.setIfInBounds_toArray, List.set_cons_succ, List.set_cons_zero, Nat.reduceAdd]
                  refine wM_nil ?_
                  intro w9 hw9 hF9
                  obtain ⟨-, B8, e8, hB8⟩ := hF9 7
                  cases e8
                  have hO9 := hO5.ext hw9
                  have own9 := own_below own5 hw9
                  have hb9 := hb5.trans (hw9.bel (D := O))
                  have hsz9 := hb9.size
                  have hnb : (n + 1) * 8 ≤ 140737488355328 := by omega
                  have hrdB : Rd w9 (some ⟨B7, 0, none⟩) [.int .i64 (p0 : Int)] := .inr ⟨B7, 0, rfl, fun j u hu => by
                    match j, hu with
                    | 0, hu => cases hu; exact hB8⟩
                  have OWN9 := hid own9
                  have HB9 := hid hb9
                  have HO9 := hid hO9
                  clear hF9
                  simp only [List.drop_succ_cons, List.drop_zero]
                  go_wp2_with (at_builtin; refine wpList_append_rd2 _ rfl _ _ 37 rfl elem_int Wb.heap.size _ n _ rfl OWN9.out (some ⟨B7, 0, none⟩) 1 1 [.int .i64 (p0 : Int)] rfl rfl hrdB (by simp [Value.oneCell']) hnb hsz9 ?_)
                  intro A6 k6 W6 own6 hbel6 hgr6 hloc6
                  have hb6 := HB9.out.below hbel6
                  have hO6 : OutB W6 O (rows.set n0 (.slice A n k)) := (Below.block hbel6 O hOb).trans HO9.out
                  have c6 := hO6.cell n0
                  rw [hc5] at c6
                  have f6 := hO6.frozen n0
                  have hb7 := (Bel.refl O W6).setCell n0 (.slice A6 (n + 1) k6)
                  have hO7 := hO6.set n0 (.slice A6 (n + 1) k6)
                  rw [List.set_set] at hO7
                  have own7 := hb7.own own6 (fun g hg => by have := (own6.lt g hg).1; omega)
                  have hb8 := hb6.trans hb7
                  have hn1 : Hid (n + 1 = (canP g f c n0 (p0 + 1)).length) := by unfold Hid; rw [HN.out, List.length_append, ← HNL.out]; rfl
                  have own8 : (W6.setCell ⟨O, n0, none⟩ (.slice A6 (n + 1) k6)).ownsRow Wb.heap.size 3 1 (.slice A6 (n + 1) k6) (n + 1) ((natI (canP g f c n0 (p0 + 1))).map (.int .i64)) := by
                    rw [HN.out, natI_app, List.map_append]
                    exact own7
                  clear own5 own6 own7 hb6 hb7 hO6 OWN9 HB9 HO9 hO9 own9 hb9 hrdB
                  go_wp2
                  go_roundw
                  case rel => exact ⟨p0 + 1, by omega, by go_num, A6, k6, n + 1, hO7, own8, hn1.out, hb8⟩
                  case measure => simp [intOf]; omega
                · have HN : Hid (canP g f c n0 (p0 + 1) = canP g f c n0 p0) := by unfold Hid; rw [canP_succ, HFR.out]; simp [hr0]
                  have hrd : decide (0 < r) = false := by simpa using hr0
                  go_wp2
                  go_roundw
                  case rel => exact ⟨p0 + 1, by omega, by go_num, A, k, n, hO5, by rw [HN.out]; exact own5, by rw [HN.out]; exact HNL.out, hb5⟩
                  case measure => simp [intOf]; omega
          · have hltp' : ¬ (p0 : Int) < (P : Int) := by omega
            have hcn : canP g f c n0 p0 = canN g f c n0 := by rw [canN_canP, HP.out.2, show p0 = P by omega]
            rw [hcn] at ownv hn
            subst hn
            have hos2 : OutS g f c T Wm O (n0 + 1) (rows.set n0 (.slice A (canN g f c n0).length k)) V := by
              have hOb := HOS.out.blk.lt
              refine ⟨hOv, by rw [List.length_set]; exact HOS.out.len, fun i hi => ?_, fun i h1 h2 => ?_, HOS.out.bel.trans hbV⟩
              · by_cases e : i = n0
                · subst e
                  refine ⟨A, k, by rw [List.getElem?_set, if_pos rfl, if_pos (by rw [HOS.out.len]; exact hlt)], Rd.of_own ownv, fun a ha => ?_, own_cap ownv⟩
                  have := own_block_lt ownv a ha
                  omega
                · obtain ⟨A4, k4, hr4, hI4, hN4, hk4⟩ := HOS.out.old i (by omega)
                  exact ⟨A4, k4, by rw [List.getElem?_set, if_neg (fun q => e q.symm)]; exact hr4, hI4.bel hbV hN4, hN4, hk4⟩
              · rw [List.getElem?_set, if_neg (by omega)]
                exact HOS.out.new i (by omega) h2
            clear hOv ownv
            go_wp2
            go_roundw
            case rel => exact ⟨n0 + 1, _, by omega, by go_num, hos2⟩
            case measure => simp [intOf]; omega
      · have hlt' : ¬ (n0 : Int) < (T : Int) + 1 := by omega
        have hrows : IntRows wr (some ⟨O, 0, none⟩) (canL g f c) := by
          refine ⟨rows, .inr ⟨O, 0, rfl, fun j u hu => ?_⟩, ?_, fun i l hl => ?_⟩
          · rw [Nat.zero_add, hos.blk.cell]; exact hu
          · rw [hos.len]; unfold canL; simp [HT.out.2]
          · unfold canL at hl
            rw [List.getElem?_map, Option.map_eq_some_iff] at hl
            obtain ⟨m, hm, rfl⟩ := hl
            have hmi := List.getElem?_eq_some_iff.1 hm
            obtain ⟨h1, h2⟩ := hmi
            simp only [List.length_range, List.getElem_range] at h1 h2
            subst h2
            rw [HT.out.2] at h1
            obtain ⟨A4, k4, hr4, hI4, hN4, hk4⟩ := hos.old i (by omega)
            exact ⟨A4, k4, by rw [natI_len]; exact hr4, hI4, by rw [natI_len]; exact hk4⟩
        have HROWS := hid hrows
        clear hos hrows
        go_wp2
        go_ret
        exact ⟨_, rfl, hxw, fun h => (by rw [HL.out] at h; cases h), fun _ => ⟨_, T + 1, by rw [HT.out.2]; rfl, HROWS.out, by rw [HT.out.2]; omega⟩⟩
end Go.Proofs.YtlonpgbapiemcaaGreat

namespace Go.Proofs.YtlonpgbapiemcaaGreat
open Go Go.RowKit Go.Shelf
set_option linter.unusedVariables false
set_option linter.unusedSimpArgs false

def ctAt (f : Fg) (k : Int) : Ct := f.ct.getD k.toNat ⟨[], []⟩
def IntsR (w : World) (v : Value) (l : List Int) : Prop := ∃ A k, v = .slice A l.length k ∧ Ints w A l ∧ l.length ≤ k
theorem IntsR.nil (w : World) : IntsR w (.slice none 0 0) [] := ⟨none, 0, rfl, Ints.nil _ _, Nat.le_refl _⟩
theorem IntsR.ext {w w' : World} {v : Value} {l : List Int} (h : IntsR w v l) (hx : Ext w w') : IntsR w' v l := by
  obtain ⟨A, k, e1, e2, e3⟩ := h
  exact ⟨A, k, e1, e2.ext hx, e3⟩
theorem neqE {x : Int} (h : x ≠ 0) : (x != 0) = true := by simpa using h

/-- How many walks fit a cart. -/
def countV (f : Fg) (k : Int) : Int := if cartE f k = 0 then countM (farM f) f (ctAt f k) allF else 0
set_option maxRecDepth 100000 in
set_option maxHeartbeats 2000000 in
theorem countx_any (v : Value) (f : Fg) (k : Int) (w : World) (hf : FgR w v f) (hs : f.sized) :
    Calls Tryz.prog 19 #[v, .int .i64 k] w fun e w' => e = .returned (.tuple #[.int .i64 (countV f k), .int .i64 (cartE f k)]) ∧ Ext w w' := by
  obtain ⟨s, rfl, hr⟩ := hf.rows
  obtain ⟨T, hT⟩ : ∃ T, cartE f k = T := ⟨_, rfl⟩
  have HT := hid hT
  clear hT
  have HS := hid hs
  have HX0 : Hid (Ext w (w.alloc (.cells #[.int .i64 f.pl, .int .i64 f.mi, .slice s.a1 f.tr.length s.c1, .slice s.a2 f.bl.length s.c2, .slice s.a3 f.ct.length s.c3] 29))) := Ext.alloc (Ext.refl w) _
  show Calls _ _ #[.agg #[.int .i64 f.pl, .int .i64 f.mi, .slice s.a1 f.tr.length s.c1, .slice s.a2 f.bl.length s.c2, .slice s.a3 f.ct.length s.c3], _] _ _
  go_enter Tryz.func19, Tryz.ntmps19
  go_wp2_with fail
  refine (carted_any (.agg #[.int .i64 f.pl, .int .i64 f.mi, .slice s.a1 f.tr.length s.c1, .slice s.a2 f.bl.length s.c2, .slice s.a3 f.ct.length s.c3]) f k _ (FRows.fg (hr.ext HX0.out)) HS.out).mono ?_
  rintro e w1 ⟨r, rfl, hb1, hr1, hr2⟩
  have hx1 := HX0.out.trans hb1
  have kc0 := hb1.cell (p := ⟨w.heap.size, 0, none⟩) (u := .int .i64 f.pl) (by simp [go_sem])
  have kc1 := hb1.cell (p := ⟨w.heap.size, 1, none⟩) (u := .int .i64 f.mi) (by simp [go_sem])
  have kc2 := hb1.cell (p := ⟨w.heap.size, 2, none⟩) (u := .slice s.a1 f.tr.length s.c1) (by simp [go_sem])
  have kc3 := hb1.cell (p := ⟨w.heap.size, 3, none⟩) (u := .slice s.a2 f.bl.length s.c2) (by simp [go_sem])
  have kc4 := hb1.cell (p := ⟨w.heap.size, 4, none⟩) (u := .slice s.a3 f.ct.length s.c3) (by simp [go_sem])
  clear HX0 hb1
  rw [HT.out]
  by_cases h0 : T = 0
  case neg =>
    have HE0 : Hid (cartE f k ≠ 0) := by unfold Hid; rw [HT.out]; exact h0
    have hr3 := hr2 HE0.out
    subst hr3
    clear hr1 hr2
    go_wp2
    go_ret2
    exact ⟨by unfold countV; rw [if_neg HE0.out, HT.out]; rfl, hx1⟩
  subst h0
  obtain ⟨D, s2, hrD, hdk, hrk⟩ := hr1 HT.out
  subst hrD
  clear hr1 hr2
  obtain ⟨hce, hk0, hk1⟩ := cartE_ok HT.out
  have HOK : Hid (FogOK f) := checkF_ok hce
  obtain ⟨kn, rfl⟩ : ∃ kn : Nat, k = kn := ⟨k.toNat, by omega⟩
  have hkl : kn < f.ct.length := by omega
  have hkl' : (kn : Int) < (f.ct.length : Int) := by omega
  obtain ⟨c, hcg⟩ := get_of_lt f.ct kn hkl
  have HCM : Hid (c ∈ f.ct) := mem_of_get hcg
  have HCA : Hid (ctAt f (kn : Int) = c) := by unfold Hid ctAt; rw [Int.toNat_natCast, List.getD_eq_getElem?_getD, hcg]; rfl
  obtain ⟨cb, co, A1, c1, A2, c2, hA3, cc0, cc1, hCS, hCR, hck1, hck2⟩ := (hr.ct.ext hx1).at_ hcg
  have HA3 := hid hA3
  have HDK := hid hdk
  rw [hA3] at kc4
  rw [HA3.out]
  have hcR : CtR w1 (.agg #[.slice A1 c.st.length c1, .slice A2 c.rp.length c2]) c := ⟨A1, c1, A2, c2, rfl, hCS, hCR, hck1, hck2⟩
  clear hk0 hk1 hce hcg hA3 hkl
  have FX : Hid (∀ w', Ext w1 w' → w'.cell? ⟨w.heap.size, 4, none⟩ = some (.slice (some ⟨cb, co, none⟩) f.ct.length s.c3) ∧ w'.cell? ⟨cb, co + kn * 2, none⟩ = some (.slice A1 c.st.length c1) ∧ w'.cell? ⟨cb, co + kn * 2 + 1, none⟩ = some (.slice A2 c.rp.length c2)) := fun w' h => ⟨h.cell kc4, h.cell cc0, h.cell cc1⟩
  go_wp2
  refine wp_region_shut Ext (fun w' => Ext w1 w') (fun
    | 6 => some (fun v _ => v = .agg #[.func (.func 155) #[] #[]])
    | 7 => some (fun v _ => v = .int .i64 (countM (farM f) f c allF))
    | _ => none) (by kernel_rfl) (by kernel_rfl) (fun _ _ h k => h.trans k) ?hT (Ext.drew (Ext.refl w1)) ?_
  case hT =>
    intro i R hR
    match i, hR with
    | 6, hR => cases hR; exact fun _ _ _ h _ => h
    | 7, hR => cases hR; exact fun _ _ _ h _ => h
  refine wM_val ?ua0 rfl rfl Ext.refl (fun w' hD => ?ha0) (fun pha0 => ?na0)
  case ha0 =>
    obtain ⟨d0, d1, d2⟩ := FX.out w' hD.1
    go_simp; rfl
  simp only [Act.put, List.setIfInBounds_toArray, List.set_cons_succ, List.set_cons_zero, Nat.reduceAdd]
  refine wM_val ?ua1 rfl rfl Ext.refl (fun w' hD => ?ha1) (fun pha1 => ?na1)
  case ha1 =>
    obtain ⟨d0, d1, d2⟩ := FX.out w' hD.1
    go_simp; rfl
  simp only [Act.put, List.setIfInBounds_toArray, List.set_cons_succ, List.set_cons_zero, Nat.reduceAdd]
  refine wM_val ?ua2 rfl rfl Ext.refl (fun w' hD => ?ha2) (fun pha2 => ?na2)
  case ha2 =>
    obtain ⟨d0, d1, d2⟩ := FX.out w' hD.1
    go_simp; rfl
  simp only [Act.put, List.setIfInBounds_toArray, List.set_cons_succ, List.set_cons_zero, Nat.reduceAdd]
  refine wM_val ?ua3 rfl rfl Ext.refl (fun w' hD => ?ha3) (fun pha3 => ?na3)
  case ha3 =>
    obtain ⟨d0, d1, d2⟩ := FX.out w' hD.1
    go_simp; rfl
  simp only [Act.put, List.setIfInBounds_toArray, List.set_cons_succ, List.set_cons_zero, Nat.reduceAdd]
  refine wM_val ?ua4 rfl rfl Ext.refl (fun w' hD => ?ha4) (fun pha4 => ?na4)
  case ha4 =>
    obtain ⟨d0, d1, d2⟩ := FX.out w' hD.1
    go_simp; rfl
  simp only [Act.put, List.setIfInBounds_toArray, List.set_cons_succ, List.set_cons_zero, Nat.reduceAdd]
  refine wM_val ?ua5 rfl rfl Ext.refl (fun w' hD => ?ha5) (fun pha5 => ?na5)
  case ha5 =>
    obtain ⟨d0, d1, d2⟩ := FX.out w' hD.1
    go_simp; rfl
  simp only [Act.put, List.setIfInBounds_toArray, List.set_cons_succ, List.set_cons_zero, Nat.reduceAdd]
  refine wM_op _ rfl rfl (opens_call ?fa6 ?ga6 (fun w' hD => ?ha6) (fun w' hD => ?ca6)) (fun v6 hv6 => ?na6)
  case ha6 => go_simp; constructor <;> rfl
  case ca6 =>
    refine (alls_any w').mono ?_
    rintro e w2 ⟨rfl, hb⟩
    exact ⟨_, rfl, hb, rfl⟩
  obtain ⟨_, -, -, rfl⟩ := hv6
  simp only [Act.put, List.setIfInBounds_toArray, List.set_cons_succ, List.set_cons_zero, Nat.reduceAdd]
  refine wM_op _ rfl rfl (opens_call ?fa7 ?ga7 (fun w' hD => ?ha7) (fun w' hD => ?ca7)) (fun v7 hv7 => ?na7)
  case ha7 => go_simp; constructor <;> rfl
  case ca7 =>
    refine (count_any D s2 f (farM f) c (.agg #[.slice A1 c.st.length c1, .slice A2 c.rp.length c2]) (.func (.func 155) #[] #[]) allF w' (HDK.out.ext hD.1) (hrk.ext hD.1) HOK.out HCM.out (hcR.ext hD.1) (all1_fn _)).mono ?_
    rintro e w2 ⟨rfl, hb⟩
    exact ⟨_, rfl, hb, rfl⟩
  obtain ⟨_, -, -, rfl⟩ := hv7
  simp only [Act.put, List.setIfInBounds_toArray, List.set_cons_succ, List.set_cons_zero, Nat.reduceAdd]
  refine wM_val ?ua8 rfl rfl Ext.refl (fun w' hD => ?ha8) (fun pha8 => ?na8)
  case ha8 =>
    obtain ⟨d0, d1, d2⟩ := FX.out w' hD.1
    go_simp; rfl
  simp only [Act.put, List.setIfInBounds_toArray, List.set_cons_succ, List.set_cons_zero, Nat.reduceAdd]
  refine wM_val ?ua9 rfl rfl Ext.refl (fun w' hD => ?ha9) (fun pha9 => ?na9)
  case ha9 =>
    obtain ⟨d0, d1, d2⟩ := FX.out w' hD.1
    go_simp; rfl
  simp only [Act.put, List.setIfInBounds_toArray, List.set_cons_succ, List.set_cons_zero, Nat.reduceAdd]
  refine wM_nil ?_
  intro w9 hw9 hF9
  go_wp2
  go_ret2
  exact ⟨by unfold countV; rw [HT.out, if_pos rfl, HCA.out]; rfl, hx1.trans hw9⟩

/-- Where a cart can be in a minute, or the error. -/
def atE (f : Fg) (k m : Int) : Int := if cartE f k ≠ 0 then cartE f k else if miOK f m then (if lostF (farM f) f (ctAt f k) then 7 else 0) else 3
def atL (f : Fg) (k m : Int) : List Int := if atE f k m = 0 then natI (canN (farM f) f (ctAt f k) m.toNat) else []
def AtPost (w : World) (f : Fg) (k m : Int) (e : Ending) (w' : World) : Prop := ∃ r, e = .returned (.tuple #[r, .int .i64 (atE f k m)]) ∧ Ext w w' ∧ IntsR w' r (atL f k m)
theorem canL_get {g : Mat} {f : Fg} {c : Ct} {m : Nat} (h : m ≤ f.mi.toNat) : (canL g f c)[m]? = some (natI (canN g f c m)) := by
  unfold canL
  rw [List.getElem?_map, List.getElem?_range (by omega)]; rfl
set_option maxRecDepth 100000 in
set_option maxHeartbeats 2000000 in
theorem at_any (v : Value) (f : Fg) (k m : Int) (w : World) (hf : FgR w v f) (hs : f.sized) :
    Calls Tryz.prog 21 #[v, .int .i64 k, .int .i64 m] w (AtPost w f k m) := by
  have hnil := @Lib.run_eql_slice_nil Tryz.prog
  obtain ⟨s, rfl, hr⟩ := hf.rows
  obtain ⟨T, hT⟩ : ∃ T, cartE f k = T := ⟨_, rfl⟩
  have HT := hid hT
  clear hT
  have HS := hid hs
  have HX0 : Hid (Ext w (w.alloc (.cells #[.int .i64 f.pl, .int .i64 f.mi, .slice s.a1 f.tr.length s.c1, .slice s.a2 f.bl.length s.c2, .slice s.a3 f.ct.length s.c3] 29))) := Ext.alloc (Ext.refl w) _
  show Calls _ _ #[.agg #[.int .i64 f.pl, .int .i64 f.mi, .slice s.a1 f.tr.length s.c1, .slice s.a2 f.bl.length s.c2, .slice s.a3 f.ct.length s.c3], _, _] _ _
  go_enter Tryz.func21, Tryz.ntmps21
  go_wp2_with fail
  refine (carted_any (.agg #[.int .i64 f.pl, .int .i64 f.mi, .slice s.a1 f.tr.length s.c1, .slice s.a2 f.bl.length s.c2, .slice s.a3 f.ct.length s.c3]) f k _ (FRows.fg (hr.ext HX0.out)) HS.out).mono ?_
  rintro e w1 ⟨r, rfl, hb1, hr1, hr2⟩
  have hx1 := HX0.out.trans hb1
  have kc0 := hb1.cell (p := ⟨w.heap.size, 0, none⟩) (u := .int .i64 f.pl) (by simp [go_sem])
  have kc1 := hb1.cell (p := ⟨w.heap.size, 1, none⟩) (u := .int .i64 f.mi) (by simp [go_sem])
  have kc2 := hb1.cell (p := ⟨w.heap.size, 2, none⟩) (u := .slice s.a1 f.tr.length s.c1) (by simp [go_sem])
  have kc3 := hb1.cell (p := ⟨w.heap.size, 3, none⟩) (u := .slice s.a2 f.bl.length s.c2) (by simp [go_sem])
  have kc4 := hb1.cell (p := ⟨w.heap.size, 4, none⟩) (u := .slice s.a3 f.ct.length s.c3) (by simp [go_sem])
  clear HX0 hb1
  rw [HT.out]
  by_cases h0 : T = 0
  case neg =>
    have HE0 : Hid (cartE f k ≠ 0) := by unfold Hid; rw [HT.out]; exact h0
    have hr3 := hr2 HE0.out
    subst hr3
    clear hr1 hr2
    have HN : Hid (atE f k m = T) := by unfold Hid atE; rw [if_pos HE0.out, HT.out]
    have HN2 : Hid (atE f k m ≠ 0) := by unfold Hid; rw [HN.out]; exact h0
    go_wp2
    go_ret2
    exact ⟨.slice none 0 0, by rw [HN.out]; rfl, hx1, by unfold atL; rw [if_neg HN2.out]; exact IntsR.nil _⟩
  subst h0
  obtain ⟨D, s2, hrD, hdk, hrk⟩ := hr1 HT.out
  subst hrD
  clear hr1 hr2
  obtain ⟨hce, hk0, hk1⟩ := cartE_ok HT.out
  have HOK : Hid (FogOK f) := checkF_ok hce
  obtain ⟨kn, rfl⟩ : ∃ kn : Nat, k = kn := ⟨k.toNat, by omega⟩
  have hkl : kn < f.ct.length := by omega
  have hkl' : (kn : Int) < (f.ct.length : Int) := by omega
  obtain ⟨c, hcg⟩ := get_of_lt f.ct kn hkl
  have HCM : Hid (c ∈ f.ct) := mem_of_get hcg
  have HCA : Hid (ctAt f (kn : Int) = c) := by unfold Hid ctAt; rw [Int.toNat_natCast, List.getD_eq_getElem?_getD, hcg]; rfl
  obtain ⟨cb, co, A1, c1, A2, c2, hA3, cc0, cc1, hCS, hCR, hck1, hck2⟩ := (hr.ct.ext hx1).at_ hcg
  have HA3 := hid hA3
  have HDK := hid hdk
  rw [hA3] at kc4
  rw [HA3.out]
  have hcR : CtR w1 (.agg #[.slice A1 c.st.length c1, .slice A2 c.rp.length c2]) c := ⟨A1, c1, A2, c2, rfl, hCS, hCR, hck1, hck2⟩
  clear hk0 hk1 hce hcg hA3 hkl
  go_wp2_with fail
  refine (minute_any (.agg #[.int .i64 f.pl, .int .i64 f.mi, .slice s.a1 f.tr.length s.c1, .slice s.a2 f.bl.length s.c2, .slice (some ⟨cb, co, none⟩) f.ct.length s.c3]) f m w1 (by have := FRows.fg (hr.ext hx1); unfold Ads.val fval at this; rw [HA3.out] at this; exact this)).mono ?_
  rintro e w2 ⟨rfl, hb2⟩
  have hx12 := hb2
  have hx2 := hx1.trans hb2
  have h4 := hb2.cell kc4
  have h5 := hb2.cell cc0
  have h6 := hb2.cell cc1
  have HCE : Hid (cartE f (kn : Int) = 0) := HT
  cases hq : miOK f m
  · have HN : Hid (atE f kn m = 3) := by unfold Hid atE; rw [if_neg (fun h => h HCE.out), hq]; rfl
    have HN2 : Hid (atE f kn m ≠ 0) := by unfold Hid; rw [HN.out]; decide
    go_wp2
    go_ret2
    exact ⟨.slice none 0 0, by rw [HN.out]; rfl, hx2, by unfold atL; rw [if_neg HN2.out]; exact IntsR.nil _⟩
  have hmm := inB_iff.1 hq
  obtain ⟨mn, rfl⟩ : ∃ mn : Nat, m = mn := ⟨m.toNat, by omega⟩
  have HQ := hid hq
  have hmi := HOK.out.mi
  have hmn : mn ≤ f.mi.toNat := by omega
  have hmn' : (mn : Int) < (f.mi.toNat : Int) + 1 := by omega
  clear hq hmm
  go_wp2_with fail
  refine (can_any D s2 f (farM f) c (.agg #[.slice A1 c.st.length c1, .slice A2 c.rp.length c2]) w2 (HDK.out.ext hb2) (hrk.ext hb2) HOK.out HCM.out (hcR.ext hb2)).mono ?_
  rintro e w3 ⟨vv, rfl, hb3, hl1, hl2⟩
  have hx3 := hx2.trans hb3
  cases hl : lostF (farM f) f c
  · obtain ⟨A9, k9, e9, hI9, hk9⟩ := hl2 hl
    subst e9
    have HN : Hid (atE f kn mn = 0) := by unfold Hid atE; rw [if_neg (fun h => h HCE.out), HQ.out, HCA.out, hl]; rfl
    obtain ⟨rb, ro, A7, k7, eA9, q0, hI7, hk7⟩ := hI9.at_ (canL_get hmn)
    cases eA9
    have hni := natI_len (canN (farM f) f c mn)
    have HNI := hid hni
    rw [hni] at q0 hk7
    clear hl hl1 hl2 hni
    go_wp2
    go_ret2
    exact ⟨.slice A7 (canN (farM f) f c mn).length k7, by rw [HN.out]; rfl, hx3, by unfold atL; rw [if_pos HN.out, HCA.out, Int.toNat_natCast]; exact ⟨A7, k7, by rw [HNI.out], hI7, by rw [HNI.out]; exact hk7⟩⟩
  · have e9 := hl1 hl
    subst e9
    have HN : Hid (atE f kn mn = 7) := by unfold Hid atE; rw [if_neg (fun h => h HCE.out), HQ.out, HCA.out, hl]; rfl
    have HN2 : Hid (atE f kn mn ≠ 0) := by unfold Hid; rw [HN.out]; decide
    clear hl hl1 hl2
    go_wp2
    go_ret2
    exact ⟨.slice none 0 0, by rw [HN.out]; rfl, hx3, by unfold atL; rw [if_neg HN2.out]; exact IntsR.nil _⟩

set_option maxRecDepth 100000 in
set_option maxHeartbeats 1000000 in
theorem heardc_any (D : Nat) (g : Mat) (b : Bl) (p : Nat) (w : World) (hd : w.cell? ⟨D, 5 + b.pl.toNat * 8 + p, none⟩ = some (.int .i64 (g b.pl.toNat p))) (hb : 0 ≤ b.pl ∧ b.pl < 8) (hp : p < 8) :
    Calls Tryz.prog 46 #[.pointer (some ⟨D, 0, none⟩), b.val, .int .i64 (p : Int)] w fun e w' => e = .returned (.bool (heardM g b p)) ∧ Ext w w' := by
  obtain ⟨bm, bp, bl⟩ := b
  simp only at hb hd
  obtain ⟨q, rfl⟩ : ∃ q : Nat, bp = q := ⟨bp.toNat, by omega⟩
  have hq : q < 8 := by omega
  simp only [Int.toNat_natCast] at hd
  have HF : Hid (decide (g q p ≤ bl) = heardM g ⟨bm, (q : Int), bl⟩ p) := by unfold Hid heardM; simp
  generalize heardM g ⟨bm, (q : Int), bl⟩ p = F at HF ⊢
  have c0 : ∀ o, (w.alloc o).cell? ⟨D, 5 + q * 8 + p, none⟩ = some (.int .i64 (g q p)) := fun o => (Ext.alloc (Ext.refl w) o).cell hd
  have hq' : (q : Int) < 8 := by omega
  have hp' : (p : Int) < 8 := by omega
  unfold Bl.val
  go_enter Tryz.func46, Tryz.ntmps46
  go_wp2
  go_quiet (fail)
  go_wp2
  go_ret
  exact ⟨ret_of (bool_of HF.out), Ext.drewN (Ext.alloc (Ext.refl w) _) _⟩
theorem heard1_fn (w : World) (Bd Bb D : Nat) (s : Ads) (f : Fg) (g : Mat) (b : Bl) (hd : Dk w D s f g) (hb : 0 ≤ b.pl ∧ b.pl < 8) (hB : w.cell? ⟨Bd, 0, none⟩ = some (.pointer (some ⟨D, 0, none⟩)))
    (h0 : w.cell? ⟨Bb, 0, none⟩ = some (.int .i64 b.mi)) (h1 : w.cell? ⟨Bb, 1, none⟩ = some (.int .i64 b.pl)) (h2 : w.cell? ⟨Bb, 2, none⟩ = some (.int .i64 b.lo)) :
    FnP Tryz.prog (.func (.func 172) #[] #[.pointer (some ⟨Bd, 0, none⟩), .pointer (some ⟨Bb, 0, none⟩)]) w IntR (fun p => 0 ≤ p ∧ p < 8) (fun p => heardM g b p.toNat) := by
  refine ⟨_, _, _, rfl, enters_of Tryz.func172 (by kernel_rfl) rfl, fun x v W hs hW hR => ?_⟩
  obtain rfl : v = .int .i64 x := hR
  obtain ⟨p, rfl⟩ : ∃ p : Nat, x = p := ⟨x.toNat, by omega⟩
  have hp : p < 8 := by omega
  have hBW := hW.cell hB
  have h0W := hW.cell h0
  have h1W := hW.cell h1
  have h2W := hW.cell h2
  have HDC : Hid (W.cell? ⟨D, 5 + b.pl.toNat * 8 + p, none⟩ = some (.int .i64 (g b.pl.toNat p))) := hW.cell (hd.at_ (by omega) hp)
  show Calls _ _ #[_, _, _] _ _
  go_enter Tryz.func172, Tryz.ntmps172
  go_wp2_with fail
  refine (heardc_any D g b p W HDC.out hb hp).mono ?_
  rintro e w1 ⟨rfl, hb1⟩
  go_wp2
  go_ret
  exact ⟨rfl, hb1⟩

/-- Whether all walks that fit a cart hear a blast, and whether none does, or the error. -/
def heardE (f : Fg) (k b : Int) : Int := if cartE f k ≠ 0 then cartE f k else if blOK f b then (if lostF (farM f) f (ctAt f k) then 7 else 0) else 1
def heardA (f : Fg) (k b : Int) : Bool := decide (heardE f k b = 0) && (canN (farM f) f (ctAt f k) (blAt f b).mi.toNat).all (heardM (farM f) (blAt f b))
def heardN (f : Fg) (k b : Int) : Bool := decide (heardE f k b = 0) && !(canN (farM f) f (ctAt f k) (blAt f b).mi.toNat).any (heardM (farM f) (blAt f b))
set_option maxRecDepth 100000 in
set_option maxHeartbeats 4000000 in
theorem heardx_any (v : Value) (f : Fg) (k m : Int) (w : World) (hf : FgR w v f) (hs : f.sized) :
    Calls Tryz.prog 102 #[v, .int .i64 k, .int .i64 m] w fun e w' => e = .returned (.tuple #[.bool (heardA f k m), .bool (heardN f k m), .int .i64 (heardE f k m)]) ∧ Ext w w' := by
  have hnil := @Lib.run_eql_slice_nil Tryz.prog
  obtain ⟨s, rfl, hr⟩ := hf.rows
  obtain ⟨T, hT⟩ : ∃ T, cartE f k = T := ⟨_, rfl⟩
  have HT := hid hT
  clear hT
  have HS := hid hs
  have HX0 : Hid (Ext w (w.alloc (.cells #[.int .i64 f.pl, .int .i64 f.mi, .slice s.a1 f.tr.length s.c1, .slice s.a2 f.bl.length s.c2, .slice s.a3 f.ct.length s.c3] 29))) := Ext.alloc (Ext.refl w) _
  show Calls _ _ #[.agg #[.int .i64 f.pl, .int .i64 f.mi, .slice s.a1 f.tr.length s.c1, .slice s.a2 f.bl.length s.c2, .slice s.a3 f.ct.length s.c3], _, _] _ _
  go_enter Tryz.func102, Tryz.ntmps102
  go_wp2_with fail
  refine (carted_any (.agg #[.int .i64 f.pl, .int .i64 f.mi, .slice s.a1 f.tr.length s.c1, .slice s.a2 f.bl.length s.c2, .slice s.a3 f.ct.length s.c3]) f k _ (FRows.fg (hr.ext HX0.out)) HS.out).mono ?_
  rintro e w1 ⟨r, rfl, hb1, hr1, hr2⟩
  have hx1 := HX0.out.trans hb1
  have kc0 := hb1.cell (p := ⟨w.heap.size, 0, none⟩) (u := .int .i64 f.pl) (by simp [go_sem])
  have kc1 := hb1.cell (p := ⟨w.heap.size, 1, none⟩) (u := .int .i64 f.mi) (by simp [go_sem])
  have kc2 := hb1.cell (p := ⟨w.heap.size, 2, none⟩) (u := .slice s.a1 f.tr.length s.c1) (by simp [go_sem])
  have kc3 := hb1.cell (p := ⟨w.heap.size, 3, none⟩) (u := .slice s.a2 f.bl.length s.c2) (by simp [go_sem])
  have kc4 := hb1.cell (p := ⟨w.heap.size, 4, none⟩) (u := .slice s.a3 f.ct.length s.c3) (by simp [go_sem])
  clear HX0 hb1
  rw [HT.out]
  by_cases h0 : T = 0
  case neg =>
    have HE0 : Hid (cartE f k ≠ 0) := by unfold Hid; rw [HT.out]; exact h0
    have hr3 := hr2 HE0.out
    subst hr3
    clear hr1 hr2
    have HN : Hid (heardE f k m = T) := by unfold Hid heardE; rw [if_pos HE0.out, HT.out]
    have HV : Hid (heardA f k m = false ∧ heardN f k m = false) := by unfold Hid heardA heardN; rw [HN.out]; constructor <;> simp [h0]
    have hxa : Ext w1 (w1.alloc (.cells #[.pointer none] 101)) := Ext.alloc (Ext.refl _) _
    go_wp2
    go_ret3
    exact ⟨by rw [HN.out, HV.out.1, HV.out.2]; rfl, hx1.trans hxa⟩
  subst h0
  obtain ⟨D, s2, hrD, hdk, hrk⟩ := hr1 HT.out
  subst hrD
  clear hr1 hr2
  obtain ⟨hce, hk0, hk1⟩ := cartE_ok HT.out
  have HOK : Hid (FogOK f) := checkF_ok hce
  obtain ⟨kn, rfl⟩ : ∃ kn : Nat, k = kn := ⟨k.toNat, by omega⟩
  have hkl : kn < f.ct.length := by omega
  have hkl' : (kn : Int) < (f.ct.length : Int) := by omega
  obtain ⟨c, hcg⟩ := get_of_lt f.ct kn hkl
  have HCM : Hid (c ∈ f.ct) := mem_of_get hcg
  have HCA : Hid (ctAt f (kn : Int) = c) := by unfold Hid ctAt; rw [Int.toNat_natCast, List.getD_eq_getElem?_getD, hcg]; rfl
  obtain ⟨cb, co, A1, c1, A2, c2, hA3, cc0, cc1, hCS, hCR, hck1, hck2⟩ := (hr.ct.ext hx1).at_ hcg
  have HA3 := hid hA3
  have HDK := hid hdk
  rw [hA3] at kc4
  rw [HA3.out]
  have hcR : CtR w1 (.agg #[.slice A1 c.st.length c1, .slice A2 c.rp.length c2]) c := ⟨A1, c1, A2, c2, rfl, hCS, hCR, hck1, hck2⟩
  clear hk0 hk1 hce hcg hA3 hkl
  have hx1a := hx1.alloc (.cells #[.pointer (some ⟨D, 0, none⟩)] 101)
  have hxa : Ext w1 (w1.alloc (.cells #[.pointer (some ⟨D, 0, none⟩)] 101)) := Ext.alloc (Ext.refl _) _
  have l0 := fun o => (Ext.alloc (Ext.refl w1) o).cell kc0
  have l1 := fun o => (Ext.alloc (Ext.refl w1) o).cell kc1
  have l2 := fun o => (Ext.alloc (Ext.refl w1) o).cell kc2
  have l3 := fun o => (Ext.alloc (Ext.refl w1) o).cell kc3
  have l4 := fun o => (Ext.alloc (Ext.refl w1) o).cell kc4
  go_wp2_with fail
  refine (blast_any (.agg #[.int .i64 f.pl, .int .i64 f.mi, .slice s.a1 f.tr.length s.c1, .slice s.a2 f.bl.length s.c2, .slice (some ⟨cb, co, none⟩) f.ct.length s.c3]) f m _ (by have := FRows.fg (hr.ext hx1a); unfold Ads.val fval at this; rw [HA3.out] at this; exact this) (by have := HS.out.bl; omega)).mono ?_
  rintro e w2 ⟨rfl, hb2⟩
  have hx12 := hxa.trans hb2
  have hx2 := hx1.trans hx12
  have kd := hb2.cell (p := ⟨w1.heap.size, 0, none⟩) (u := .pointer (some ⟨D, 0, none⟩)) (by simp [go_sem])
  have h3 := hx12.cell kc3
  have h4 := hx12.cell kc4
  have h5 := hx12.cell cc0
  have h6 := hx12.cell cc1
  have HCE : Hid (cartE f (kn : Int) = 0) := HT
  clear l0 l1 l2 l3 l4 hxa hx1a
  cases hq : blOK f m
  · have HN : Hid (heardE f kn m = 1) := by unfold Hid heardE; rw [if_neg (fun h => h HCE.out), hq]; rfl
    have HV : Hid (heardA f kn m = false ∧ heardN f kn m = false) := by unfold Hid heardA heardN; rw [HN.out]; exact ⟨rfl, rfl⟩
    go_wp2
    go_ret3
    exact ⟨by rw [HN.out, HV.out.1, HV.out.2]; rfl, hx2⟩
  have hmm := inB_iff.1 hq
  obtain ⟨bn, rfl⟩ : ∃ bn : Nat, m = bn := ⟨m.toNat, by omega⟩
  have HQ := hid hq
  have hbl : bn < f.bl.length := by omega
  have hbl' : (bn : Int) < (f.bl.length : Int) := by omega
  obtain ⟨⟨bm, bp, bo⟩, hbg⟩ := get_of_lt f.bl bn hbl
  have hbok := HOK.out.bl _ (mem_of_get hbg)
  simp only at hbok
  have HBA : Hid (blAt f (bn : Int) = ⟨bm, bp, bo⟩) := blAt_get (by simpa using hbg)
  obtain ⟨mn, rfl⟩ : ∃ mn : Nat, bm = mn := ⟨bm.toNat, by omega⟩
  obtain ⟨bb, bof, hA2, b0, b1, b2⟩ := Blasts.at_ (hr.bl.ext hx2) hbg
  have HBP : Hid (0 ≤ bp ∧ bp < 8) := by have := HOK.out.pl; unfold Hid; omega
  simp only at b0 b1 b2
  rw [hA2] at h3
  have HA2 := hid hA2
  have hmi := HOK.out.mi
  have hmn : mn ≤ f.mi.toNat := by omega
  have hmn' : (mn : Int) < (f.mi.toNat : Int) + 1 := by omega
  have hmx : (mn : Int) < max f.mi 0 + 1 := by omega
  clear hq hmm hbg hA2 hbok
  have FX : Hid (∀ w', Ext w2 w' → w'.cell? ⟨w1.heap.size, 0, none⟩ = some (.pointer (some ⟨D, 0, none⟩)) ∧ w'.cell? ⟨w.heap.size, 4, none⟩ = some (.slice (some ⟨cb, co, none⟩) f.ct.length s.c3) ∧ w'.cell? ⟨cb, co + kn * 2, none⟩ = some (.slice A1 c.st.length c1) ∧ w'.cell? ⟨cb, co + kn * 2 + 1, none⟩ = some (.slice A2 c.rp.length c2)) := fun w' h => ⟨h.cell kd, h.cell h4, h.cell h5, h.cell h6⟩
  go_wp2
  refine wp_region_shut Ext (fun w' => Ext w2 w') (fun
    | 6 => some (fun v wz => (lostF (farM f) f c = true → v = .slice none 0 0) ∧ (lostF (farM f) f c = false → ∃ A k, v = .slice (some A) (f.mi.toNat + 1) k ∧ IntRows wz (some A) (canL (farM f) f c) ∧ f.mi.toNat + 1 ≤ k))
    | _ => none) (by kernel_rfl) (by kernel_rfl) (fun _ _ h k => h.trans k) ?hTh (Ext.drew (Ext.refl w2)) ?_
  case hTh =>
    intro i R hR
    match i, hR with
    | 6, hR => cases hR; exact fun _ _ _ ⟨h1, h2⟩ k => ⟨h1, fun h => by obtain ⟨A, k', e1, e2, e3⟩ := h2 h; exact ⟨A, k', e1, e2.ext k, e3⟩⟩
  refine wM_val ?uh0 rfl rfl Ext.refl (fun w' hD => ?hh0) (fun phh0 => ?nh0)
  case hh0 =>
    obtain ⟨d0, d1, d2, d3⟩ := FX.out w' hD.1
    go_simp; rfl
  simp only [Act.put, List.setIfInBounds_toArray, List.set_cons_succ, List.set_cons_zero, Nat.reduceAdd]
  refine wM_val ?uh1 rfl rfl Ext.refl (fun w' hD => ?hh1) (fun phh1 => ?nh1)
  case hh1 =>
    obtain ⟨d0, d1, d2, d3⟩ := FX.out w' hD.1
    go_simp; rfl
  simp only [Act.put, List.setIfInBounds_toArray, List.set_cons_succ, List.set_cons_zero, Nat.reduceAdd]
  refine wM_val ?uh2 rfl rfl Ext.refl (fun w' hD => ?hh2) (fun phh2 => ?nh2)
  case hh2 =>
    obtain ⟨d0, d1, d2, d3⟩ := FX.out w' hD.1
    go_simp; rfl
  simp only [Act.put, List.setIfInBounds_toArray, List.set_cons_succ, List.set_cons_zero, Nat.reduceAdd]
  refine wM_val ?uh3 rfl rfl Ext.refl (fun w' hD => ?hh3) (fun phh3 => ?nh3)
  case hh3 =>
    obtain ⟨d0, d1, d2, d3⟩ := FX.out w' hD.1
    go_simp; rfl
  simp only [Act.put, List.setIfInBounds_toArray, List.set_cons_succ, List.set_cons_zero, Nat.reduceAdd]
  refine wM_val ?uh4 rfl rfl Ext.refl (fun w' hD => ?hh4) (fun phh4 => ?nh4)
  case hh4 =>
    obtain ⟨d0, d1, d2, d3⟩ := FX.out w' hD.1
    go_simp; rfl
  simp only [Act.put, List.setIfInBounds_toArray, List.set_cons_succ, List.set_cons_zero, Nat.reduceAdd]
  refine wM_val ?uh5 rfl rfl Ext.refl (fun w' hD => ?hh5) (fun phh5 => ?nh5)
  case hh5 =>
    obtain ⟨d0, d1, d2, d3⟩ := FX.out w' hD.1
    go_simp; rfl
  simp only [Act.put, List.setIfInBounds_toArray, List.set_cons_succ, List.set_cons_zero, Nat.reduceAdd]
  refine wM_op _ rfl rfl (opens_call ?fh6 ?gh6 (fun w' hD => ?hh6) (fun w' hD => ?ch6)) (fun v6 hv6 => ?nh6)
  case hh6 => go_simp; constructor <;> rfl
  case ch6 =>
    refine (can_any D s2 f (farM f) c (.agg #[.slice A1 c.st.length c1, .slice A2 c.rp.length c2]) w' (HDK.out.ext (hx12.trans hD.1)) (hrk.ext (hx12.trans hD.1)) HOK.out HCM.out (hcR.ext (hx12.trans hD.1))).mono ?_
    rintro e w2 ⟨v, rfl, hb, hl1, hl2⟩
    exact ⟨_, rfl, hb, hl1, fun h => by obtain ⟨A, k, e1, e2, e3⟩ := hl2 h; exact ⟨A, k, e1, e2, e3⟩⟩
  obtain ⟨_, -, -, hV6⟩ := hv6
  simp only [Act.put, List.setIfInBounds_toArray, List.set_cons_succ, List.set_cons_zero, Nat.reduceAdd]
  refine wM_val ?uh7 rfl rfl Ext.refl (fun w' hD => ?hh7) (fun phh7 => ?nh7)
  case hh7 =>
    obtain ⟨d0, d1, d2, d3⟩ := FX.out w' hD.1
    go_simp; rfl
  simp only [Act.put, List.setIfInBounds_toArray, List.set_cons_succ, List.set_cons_zero, Nat.reduceAdd]
  refine wM_nil ?_
  intro w9 hw9 hF9
  obtain ⟨-, hl1, hl2⟩ := hF9 6
  have hx3 := hx2.trans hw9
  clear hF9
  cases hl : lostF (farM f) f c
  · obtain ⟨A9, k9, e9, hI9, hk9⟩ := hl2 hl
    subst e9
    have HN : Hid (heardE f kn bn = 0) := by unfold Hid heardE; rw [if_neg (fun h => h HCE.out), HQ.out, HCA.out, hl]; rfl
    obtain ⟨rb, ro, A7, k7, eA9, q0, hI7, hk7⟩ := hI9.at_ (canL_get hmn)
    cases eA9
    have hni := natI_len (canN (farM f) f c mn)
    have HNI := hid hni
    rw [hni] at q0 hk7
    have t3 := hw9.cell h3
    have t0 := hw9.cell b0
    have t1 := hw9.cell b1
    have t2 := hw9.cell b2
    have td := hw9.cell kd
    have HIL : Hid (Ints w9 A7 (natI (canN (farM f) f c mn))) := hI7
    clear hl hl1 hl2 hni hI7
    obtain ⟨W4, hW4⟩ : ∃ W4, w9.alloc (.cells #[.int .i64 (mn : Int), .int .i64 bp, .int .i64 bo] 39) = W4 := ⟨_, rfl⟩
    have hx4 : Ext w9 W4 := by rw [← hW4]; exact Ext.alloc (Ext.refl _) _
    have hx14 := (hx12.trans hw9).trans hx4
    have y0 : W4.cell? ⟨w9.heap.size, 0, none⟩ = some (.int .i64 (mn : Int)) := by rw [← hW4]; simp [go_sem]
    have y1 : W4.cell? ⟨w9.heap.size, 1, none⟩ = some (.int .i64 bp) := by rw [← hW4]; simp [go_sem]
    have y2 : W4.cell? ⟨w9.heap.size, 2, none⟩ = some (.int .i64 bo) := by rw [← hW4]; simp [go_sem]
    have HFN : Hid (∀ w', Ext W4 w' → FnP Tryz.prog (.func (.func 172) #[] #[.pointer (some ⟨w1.heap.size, 0, none⟩), .pointer (some ⟨w9.heap.size, 0, none⟩)]) w' IntR (fun p => 0 ≤ p ∧ p < 8) (fun p => heardM (farM f) ⟨(mn : Int), bp, bo⟩ p.toNat)) := fun w' h =>
      heard1_fn w' w1.heap.size w9.heap.size D s2 f (farM f) ⟨(mn : Int), bp, bo⟩ ((HDK.out.ext hx14).ext h) HBP.out (h.cell (hx4.cell td)) (h.cell y0) (h.cell y1) (h.cell y2)
    have HALL : Hid (∀ x, x ∈ natI (canN (farM f) f c mn) → 0 ≤ x ∧ x < 8) := fun x hx => by
      unfold natI at hx
      obtain ⟨q, hq, rfl⟩ := List.mem_map.1 hx
      rw [canN_canP] at hq
      have h2 := List.mem_range.1 (List.mem_filter.1 hq).1
      have := HOK.out.pl
      exact ⟨by omega, by omega⟩
    have hlen9 : (canN (farM f) f c mn).length ≤ 8 := by
      rw [canN_canP]
      have := HOK.out.pl
      exact Nat.le_trans (canP_len _ _ _ _ _) (by omega)
    have hI9 := HIL.out.ext hx4
    have q4 := hx4.cell q0
    have FX2 : Hid (∀ w', Ext W4 w' → w'.cell? ⟨w9.heap.size, 0, none⟩ = some (.int .i64 (mn : Int)) ∧ w'.cell? ⟨rb, ro + mn, none⟩ = some (.slice A7 (canN (farM f) f c mn).length k7)) := fun w' h => ⟨h.cell y0, h.cell q4⟩
    go_wp2
    try rw [hW4]
    refine wp_region_shut Ext (fun w' => Ext W4 w') (fun
      | 6 => some (fun v _ => v = .bool ((natI (canN (farM f) f c mn)).all fun p => heardM (farM f) ⟨(mn : Int), bp, bo⟩ p.toNat))
      | 13 => some (fun v _ => v = .bool ((natI (canN (farM f) f c mn)).any fun p => heardM (farM f) ⟨(mn : Int), bp, bo⟩ p.toNat))
      | _ => none) (by kernel_rfl) (by kernel_rfl) (fun _ _ h k => h.trans k) ?hTi (Ext.drew (Ext.refl W4)) ?_
    case hTi =>
      intro i R hR
      match i, hR with
      | 6, hR => cases hR; exact fun _ _ _ h _ => h
      | 13, hR => cases hR; exact fun _ _ _ h _ => h
    refine wM_val ?ui0 rfl rfl Ext.refl (fun w' hD => ?hi0) (fun phi0 => ?ni0)
    case hi0 =>
      obtain ⟨d0, d1⟩ := FX2.out w' hD.1
      go_simp; rfl
    simp only [Act.put, List.setIfInBounds_toArray, List.set_cons_succ, List.set_cons_zero, Nat.reduceAdd]
    refine wM_val ?ui1 rfl rfl Ext.refl (fun w' hD => ?hi1) (fun phi1 => ?ni1)
    case hi1 =>
      obtain ⟨d0, d1⟩ := FX2.out w' hD.1
      go_simp; rfl
    simp only [Act.put, List.setIfInBounds_toArray, List.set_cons_succ, List.set_cons_zero, Nat.reduceAdd]
    refine wM_val ?ui2 rfl rfl Ext.refl (fun w' hD => ?hi2) (fun phi2 => ?ni2)
    case hi2 =>
      obtain ⟨d0, d1⟩ := FX2.out w' hD.1
      go_simp; rfl
    simp only [Act.put, List.setIfInBounds_toArray, List.set_cons_succ, List.set_cons_zero, Nat.reduceAdd]
    refine wM_val ?ui3 rfl rfl Ext.refl (fun w' hD => ?hi3) (fun phi3 => ?ni3)
    case hi3 =>
      obtain ⟨d0, d1⟩ := FX2.out w' hD.1
      go_simp; rfl
    simp only [Act.put, List.setIfInBounds_toArray, List.set_cons_succ, List.set_cons_zero, Nat.reduceAdd]
    refine wM_val ?ui4 rfl rfl Ext.refl (fun w' hD => ?hi4) (fun phi4 => ?ni4)
    case hi4 =>
      obtain ⟨d0, d1⟩ := FX2.out w' hD.1
      go_simp; rfl
    simp only [Act.put, List.setIfInBounds_toArray, List.set_cons_succ, List.set_cons_zero, Nat.reduceAdd]
    refine wM_val ?ui5 rfl rfl Ext.refl (fun w' hD => ?hi5) (fun phi5 => ?ni5)
    case hi5 =>
      obtain ⟨d0, d1⟩ := FX2.out w' hD.1
      go_simp; rfl
    simp only [Act.put, List.setIfInBounds_toArray, List.set_cons_succ, List.set_cons_zero, Nat.reduceAdd]
    refine wM_op _ rfl rfl (opens_call ?fi6 ?gi6 (fun w' hD => ?hi6) (fun w' hD => ?ci6)) (fun v6 hv6 => ?ni6)
    case hi6 => go_simp; constructor <;> rfl
    case ci6 =>
      have hcon := every_int A7 k7 (natI (canN (farM f) f c mn)) _ _ _ w' (hI9.ext hD.1) (by rw [HNI.out]; omega) HALL.out (HFN.out w' hD.1)
      rw [HNI.out] at hcon
      refine hcon.mono ?_
      rintro e w2 ⟨rfl, hb⟩
      exact ⟨_, rfl, hb, rfl⟩
    obtain ⟨_, -, -, rfl⟩ := hv6
    simp only [Act.put, List.setIfInBounds_toArray, List.set_cons_succ, List.set_cons_zero, Nat.reduceAdd]
    refine wM_val ?ui7 rfl rfl Ext.refl (fun w' hD => ?hi7) (fun phi7 => ?ni7)
    case hi7 =>
      obtain ⟨d0, d1⟩ := FX2.out w' hD.1
      go_simp; rfl
    simp only [Act.put, List.setIfInBounds_toArray, List.set_cons_succ, List.set_cons_zero, Nat.reduceAdd]
    refine wM_val ?ui8 rfl rfl Ext.refl (fun w' hD => ?hi8) (fun phi8 => ?ni8)
    case hi8 =>
      obtain ⟨d0, d1⟩ := FX2.out w' hD.1
      go_simp; rfl
    simp only [Act.put, List.setIfInBounds_toArray, List.set_cons_succ, List.set_cons_zero, Nat.reduceAdd]
    refine wM_val ?ui9 rfl rfl Ext.refl (fun w' hD => ?hi9) (fun phi9 => ?ni9)
    case hi9 =>
      obtain ⟨d0, d1⟩ := FX2.out w' hD.1
      go_simp; rfl
    simp only [Act.put, List.setIfInBounds_toArray, List.set_cons_succ, List.set_cons_zero, Nat.reduceAdd]
    refine wM_val ?ui10 rfl rfl Ext.refl (fun w' hD => ?hi10) (fun phi10 => ?ni10)
    case hi10 =>
      obtain ⟨d0, d1⟩ := FX2.out w' hD.1
      go_simp; rfl
    simp only [Act.put, List.setIfInBounds_toArray, List.set_cons_succ, List.set_cons_zero, Nat.reduceAdd]
    refine wM_val ?ui11 rfl rfl Ext.refl (fun w' hD => ?hi11) (fun phi11 => ?ni11)
    case hi11 =>
      obtain ⟨d0, d1⟩ := FX2.out w' hD.1
      go_simp; rfl
    simp only [Act.put, List.setIfInBounds_toArray, List.set_cons_succ, List.set_cons_zero, Nat.reduceAdd]
    refine wM_val ?ui12 rfl rfl Ext.refl (fun w' hD => ?hi12) (fun phi12 => ?ni12)
    case hi12 =>
      obtain ⟨d0, d1⟩ := FX2.out w' hD.1
      go_simp; rfl
    simp only [Act.put, List.setIfInBounds_toArray, List.set_cons_succ, List.set_cons_zero, Nat.reduceAdd]
    refine wM_op _ rfl rfl (opens_call ?fi13 ?gi13 (fun w' hD => ?hi13) (fun w' hD => ?ci13)) (fun v13 hv13 => ?ni13)
    case hi13 => go_simp; constructor <;> rfl
    case ci13 =>
      have hcon := containsFunc_int A7 k7 (natI (canN (farM f) f c mn)) _ _ _ w' (hI9.ext hD.1) (by rw [HNI.out]; omega) HALL.out (HFN.out w' hD.1)
      rw [HNI.out] at hcon
      refine hcon.mono ?_
      rintro e w2 ⟨rfl, hb⟩
      exact ⟨_, rfl, hb, rfl⟩
    obtain ⟨_, -, -, rfl⟩ := hv13
    simp only [Act.put, List.setIfInBounds_toArray, List.set_cons_succ, List.set_cons_zero, Nat.reduceAdd]
    refine wM_val ?ui14 rfl rfl Ext.refl (fun w' hD => ?hi14) (fun phi14 => ?ni14)
    case hi14 =>
      obtain ⟨d0, d1⟩ := FX2.out w' hD.1
      go_simp; rfl
    simp only [Act.put, List.setIfInBounds_toArray, List.set_cons_succ, List.set_cons_zero, Nat.reduceAdd]
    refine wM_val ?ui15 rfl rfl Ext.refl (fun w' hD => ?hi15) (fun phi15 => ?ni15)
    case hi15 =>
      obtain ⟨d0, d1⟩ := FX2.out w' hD.1
      go_simp; rfl
    simp only [Act.put, List.setIfInBounds_toArray, List.set_cons_succ, List.set_cons_zero, Nat.reduceAdd]
    refine wM_val ?ui16 rfl rfl Ext.refl (fun w' hD => ?hi16) (fun phi16 => ?ni16)
    case hi16 =>
      obtain ⟨d0, d1⟩ := FX2.out w' hD.1
      go_simp; rfl
    simp only [Act.put, List.setIfInBounds_toArray, List.set_cons_succ, List.set_cons_zero, Nat.reduceAdd]
    refine wM_val ?ui17 rfl rfl Ext.refl (fun w' hD => ?hi17) (fun phi17 => ?ni17)
    case hi17 =>
      obtain ⟨d0, d1⟩ := FX2.out w' hD.1
      go_simp; rfl
    simp only [Act.put, List.setIfInBounds_toArray, List.set_cons_succ, List.set_cons_zero, Nat.reduceAdd]
    refine wM_nil ?_
    intro w9' hw9' hF9'
    have HA : Hid (((natI (canN (farM f) f c mn)).all fun p => heardM (farM f) ⟨(mn : Int), bp, bo⟩ p.toNat) = heardA f kn bn ∧ (!((natI (canN (farM f) f c mn)).any fun p => heardM (farM f) ⟨(mn : Int), bp, bo⟩ p.toNat)) = heardN f kn bn) := by
      unfold Hid heardA heardN natI
      rw [HN.out, HCA.out, HBA.out, List.all_map, List.any_map]
      exact ⟨rfl, rfl⟩
    go_wp2
    go_ret3
    exact ⟨by rw [HN.out, ← HA.out.1, ← HA.out.2]; rfl, hx3.trans (hx4.trans hw9')⟩
  · have e9 := hl1 hl
    subst e9
    have HN : Hid (heardE f kn bn = 7) := by unfold Hid heardE; rw [if_neg (fun h => h HCE.out), HQ.out, HCA.out, hl]; rfl
    have HV : Hid (heardA f kn bn = false ∧ heardN f kn bn = false) := by unfold Hid heardA heardN; rw [HN.out]; exact ⟨rfl, rfl⟩
    clear hl hl1 hl2
    go_wp2
    go_ret3
    exact ⟨by rw [HN.out, HV.out.1, HV.out.2]; rfl, hx3⟩
end Go.Proofs.YtlonpgbapiemcaaGreat

namespace Go.Proofs.YtlonpgbapiemcaaGreat
open Go Go.RowKit Go.Shelf
set_option linter.unusedVariables false
set_option linter.unusedSimpArgs false

theorem own_some {w : World} {base e size n c : Nat} {A : Option Addr} {xs : List Value} (h : w.ownsRow base e size (.slice A (n + 1) c) (n + 1) xs) : ∃ g, A = some ⟨g, 0, none⟩ := by
  rcases h.2 with ⟨h, h2⟩ | ⟨g, cap, cur, h, _⟩
  · omega
  · cases h; exact ⟨g, rfl⟩
theorem exec_append {P : Program} (w : World) {o : Oper} (ρ : Operand → Value) (s x : Operand) (t : TypeId) (ho : o.op = .call { callee := .builtin .append, args := #[s, x], argTypes := #[t, t] }) (v vx : Value) (hs : ρ s = v) (hx : ρ x = vx) (v' : Value) (w' : World)
    (hrun : (Builtin.append_ #[t, t] o.type #[v, vx]).run P w = .ok v' w') : (execOp ρ o).run P w = .ok (.value v') w' := by
  unfold execOp
  simp only [ho, resolve, invoke, builtin, Sem.run_bind, Sem.run_pure, Result.andThen_ok, List.map_toArray, List.map_cons, List.map_nil, hs, hx, hrun]

/-- The box of a slice of numbers. -/
def OBox (W : World) (O : Nat) (ov : Value) : Prop := W.heap[O]? = some (.cells #[ov] 37 (0, 0))
theorem OBox.cell {W : World} {O : Nat} {ov : Value} (h : OBox W O ov) : W.cell? ⟨O, 0, none⟩ = some ov := by
  unfold OBox at h
  rw [cell_of_row W O 0 _ _ _ h]; rfl
theorem OBox.frozen {W : World} {O : Nat} {ov : Value} (h : OBox W O ov) : W.frozen? ⟨O, 0, none⟩ = false := by
  unfold OBox at h
  simp [World.frozen?, h]
theorem OBox.ext {W W' : World} {O : Nat} {ov : Value} (h : OBox W O ov) (hx : Ext W W') : OBox W' O ov := (Below.block hx O (Array.getElem?_eq_some_iff.1 h).1).trans h
theorem OBox.lt {W : World} {O : Nat} {ov : Value} (h : OBox W O ov) : O < W.heap.size := (Array.getElem?_eq_some_iff.1 h).1
theorem OBox.set {W : World} {O : Nat} {ov : Value} (h : OBox W O ov) (v : Value) : OBox (W.setCell ⟨O, 0, none⟩ v) O v := by
  unfold OBox at h ⊢
  simp [World.setCell, Array.getElem?_modify, h]
/-- A function value that lays the list that it is handed into the box O and says p of it. -/
def IsFn (P : Program) (fv : Value) (w0 : World) (O N wi : Nat) (p : List Int → Bool) : Prop :=
  ∃ (g : Nat) (fst lb : Array Value), fv = .func (.func g) fst lb ∧ (∀ args W, (callFunc g args).run P W = .ok (.enter g args) W) ∧
    ∀ (l : List Int) (A : Option Addr) (ca : Nat) (W : World), l.length ≤ N → (∀ x ∈ l, 0 ≤ x ∧ x < wi) → Bel O w0 W → Ints W A l → NotIn O A → (∃ ov, OBox W O ov) →
      Calls P g (fst.push (.slice A l.length ca) ++ lb) W fun e W' => e = .returned (.bool (p l)) ∧ Bel O W W' ∧ OBox W' O (.slice A l.length ca)

set_option maxRecDepth 100000 in
set_option maxHeartbeats 4000000 in
theorem lists1_any (p : List Int → Bool) (wi many O N Bm Bi Bb Mb : Nat) (fv : Value) (w0 : World) (hwi : wi ≤ 8) (hN : many ≤ N) (hm8 : many ≤ 9) (hfv : IsFn Tryz.prog fv w0 O N wi p) (hBm : Bm ≠ O) (hBi : Bi ≠ O) (hBb : Bb ≠ O) (hMb : Mb ≠ O) : ∀ (m : Nat) (l : List Int) (k : Nat) (A : Option Addr) (len ca : Nat) (W : World),
    l.length = len → len ≤ ca → (∀ x ∈ l, 0 ≤ x ∧ x < wi) → l.length + m = many → k ≤ wi → Bel O w0 W → Ints W A l → NotIn O A → (∃ ov, OBox W O ov) →
    W.cell? ⟨Mb, 0, none⟩ = some (.func (.func 170) #[] #[.pointer (some ⟨Bm, 0, none⟩), .pointer (some ⟨Bi, 0, none⟩), .pointer (some ⟨Bb, 0, none⟩), .pointer (some ⟨Mb, 0, none⟩)]) → W.cell? ⟨Bm, 0, none⟩ = some (.int .i64 (many : Int)) → W.cell? ⟨Bi, 0, none⟩ = some fv → W.cell? ⟨Bb, 0, none⟩ = some (.int .i64 (wi : Int)) →
    Calls Tryz.prog 170 (#[.slice A len ca, .int .i64 (k : Int)] ++ #[.pointer (some ⟨Bm, 0, none⟩), .pointer (some ⟨Bi, 0, none⟩), .pointer (some ⟨Bb, 0, none⟩), .pointer (some ⟨Mb, 0, none⟩)]) W fun e W' => e = .returned (.bool (moreL p wi m l k).isSome) ∧ Bel O W W' ∧
      ∃ ov, OBox W' O ov ∧ ∀ r, moreL p wi m l k = some r → ∃ A' c', ov = .slice A' r.length c' ∧ Ints W' A' r ∧ NotIn O A' ∧ r.length ≤ c' := by
  intro m
  have HFV := hid hfv
  induction m with
  | zero =>
    intro l k A len ca W hlen hca hel hlm hk hkc hA hnA hov hM hBmc hBic hBbc
    subst hlen
    obtain ⟨g, fst, lb, rfl, eg, hcall⟩ := hfv
    have HCALL := hid hcall
    clear hcall
    generalize hR : moreL p wi 0 l k = R
    have HR : Hid ((if p l then some l else none) = R) := hR
    clear hR
    have hlq : ((l.length : Int) == (many : Int)) = true := by simp; omega
    have HCL := hid (HCALL.out l A ca W (by omega) hel hkc hA hnA hov)
    have HA := hid hA
    have HLM := hid hlm
    clear hlm
    go_enter Tryz.func170, Tryz.ntmps170
    go_wp2_with fail
    refine HCL.out.mono ?_
    rintro e W2 ⟨rfl, hb2, ho2⟩
    go_wp2
    go_ret
    refine ⟨ret_of (bool_of ?_), hb2, _, ho2, ?_⟩
    · rw [← HR.out]; cases p l <;> rfl
    · intro r hr
      rw [← HR.out] at hr
      split at hr
      · cases hr
        exact ⟨A, ca, rfl, HA.out.bel hb2 hnA, hnA, hca⟩
      · cases hr
  | succ m ih =>
    intro l k A len ca W hlen hca hel hlm hk hkc hA hnA hov hM hBmc hBic hBbc
    subst hlen
    have HIH := hid ih
    clear ih
    generalize hR : moreL p wi (m + 1) l k = R
    have HR : Hid (tryL (fun n => moreL p wi m (l ++ [(n : Int)]) (n + 1)) k (wi - k) = R) := hR
    clear hR
    have hlq : ((l.length : Int) == (many : Int)) = false := by simp; omega
    have HLM := hid hlm
    clear hlm
    go_enter Tryz.func170, Tryz.ntmps170
    go_wp2
    go_loopw [9] (fun i wr => ∃ n : Nat, k ≤ n ∧ n ≤ wi ∧ i = .int .i64 (n : Int) ∧ Hid (tryL (fun n => moreL p wi m (l ++ [(n : Int)]) (n + 1)) n (wi - n) = R) ∧ Bel O W wr ∧ ∃ ov, OBox wr O ov) (fun i _ => wi - (intOf i).toNat)
    case atStart => exact ⟨k, Nat.le_refl _, hk, rfl, HR, Bel.refl _ _, hov⟩
    case round =>
      obtain ⟨n, hkn, hnw, rfl, HR, hbl, hov⟩ := hrel
      have hBbr := hbl.cell hBbc hBb
      have hMr := hbl.cell hM hMb
      have hBmr := hbl.cell hBmc hBm
      have hBir := hbl.cell hBic hBi
      have hAr := hA.bel hbl hnA
      by_cases hlt : n < wi
      · have hlt' : (n : Int) < (wi : Int) := by omega
        have hll : l.length ≤ 9 := by have := HLM.out; omega
        go_wp2
        have FX : Hid (∀ w', Below wr.heap.size wr w' → w'.cell? ⟨Mb, 0, none⟩ = some (.func (.func 170) #[] #[.pointer (some ⟨Bm, 0, none⟩), .pointer (some ⟨Bi, 0, none⟩), .pointer (some ⟨Bb, 0, none⟩), .pointer (some ⟨Mb, 0, none⟩)]) ∧ Ints w' A l) := fun w' h => ⟨Ext.cell h hMr, hAr.ext h⟩
        refine wp_region_shut_tail (Laid wr.heap.size 3 l.length (l.map (.int .i64)) (.int .i64 (n : Int))) (fun w' => wr.heap.size ≤ w'.heap.size ∧ Below wr.heap.size wr w') (fun
          | 2 => some (fun v W => ∃ A2 c2, v = .slice A2 l.length c2 ∧ W.ownsRow wr.heap.size 3 1 (.slice A2 l.length c2) l.length (l.map (.int .i64)))
          | 4 => some (fun v W => ∃ b, v = .slice (some ⟨b, 0, none⟩) 1 1 ∧ Rd0 W b [.int .i64 (n : Int)])
          | 5 => some (fun v W => ∃ g c5, v = .slice (some ⟨g, 0, none⟩) (l.length + 1) c5 ∧ (wr.heap.size ≤ g ∧ l.length + 1 ≤ c5) ∧ Rd0 W g (l.map (.int .i64) ++ [.int .i64 (n : Int)]))
          | _ => none) 8 (by kernel_rfl) (by kernel_rfl) (fun _ _ h k => ⟨Nat.le_trans h.1 k.1.size, h.2.trans k.1⟩) ?hT ⟨Nat.le_refl _, (Below.refl _ wr).drew⟩ ?_
        case hT =>
          intro i R hR
          match i, hR with
          | 2, hR => cases hR; exact fun _ _ _ ⟨A2, c2, e1, e2⟩ k => ⟨A2, c2, e1, k.2.1 _ e2⟩
          | 4, hR => cases hR; exact fun _ _ _ ⟨b, e1, e2⟩ k => ⟨b, e1, k.2.2.2 _ e2⟩
          | 5, hR => cases hR; exact fun _ _ _ ⟨g, c5, e1, e2, e3⟩ k => ⟨g, c5, e1, e2, k.2.2.1 _ e3⟩
        refine wM_val ?ua0 rfl rfl Laid.refl (fun w' hD => ?ha0) (fun pha0 => ?na0)
        case ha0 =>
          obtain ⟨dm, dl⟩ := FX.out w' hD.1.2
          go_simp; rfl
        simp only [Act.put, List.setIfInBounds_toArray, List.set_cons_succ, List.set_cons_zero, Nat.reduceAdd]
        refine wM_val ?ua1 rfl rfl Laid.refl (fun w' hD => ?ha1) (fun pha1 => ?na1)
        case ha1 =>
          obtain ⟨dm, dl⟩ := FX.out w' hD.1.2
          go_simp; rfl
        simp only [Act.put, List.setIfInBounds_toArray, List.set_cons_succ, List.set_cons_zero, Nat.reduceAdd]
        refine wM_op _ rfl rfl (opens_call ?fa2 ?ga2 (fun w' hD => ?ha2) (fun w' hD => ?ca2)) (fun v2 hv2 => ?na2)
        case ha2 => go_simp; constructor <;> rfl
        case ca2 =>
          obtain ⟨dm, dl⟩ := FX.out w' hD.1.2
          have hsz2 := hD.1.1
          refine ((clone_int A ca l w' dl (by omega))).mono ?_
          rintro e w2 ⟨A2, c2, rfl, ho, _, hb⟩
          exact ⟨_, rfl, Laid.of_ext hb hsz2, A2, c2, rfl, own_base ho hsz2⟩
        obtain ⟨_, _, _, A2, c2, rfl, _⟩ := hv2
        simp only [Act.put, List.setIfInBounds_toArray, List.set_cons_succ, List.set_cons_zero, Nat.reduceAdd]
        refine wM_val ?ua3 rfl rfl Laid.refl (fun w' hD => ?ha3) (fun pha3 => ?na3)
        case ha3 =>
          obtain ⟨dm, dl⟩ := FX.out w' hD.1.2
          go_simp; rfl
        simp only [Act.put, List.setIfInBounds_toArray, List.set_cons_succ, List.set_cons_zero, Nat.reduceAdd]
        refine wM_op _ rfl rfl (opens_val (fun w' hD => ?ha4)) (fun v4 hv4 => ?na4)
        case ha4 =>
          have hsz2 := hD.1.1
          refine ⟨.slice (some ⟨w'.heap.size, 0, none⟩) 1 1, w'.alloc (.cells #[.int .i64 (n : Int)] 3), ?_, Laid.of_ext (Ext.alloc (Ext.refl _) _) hsz2, _, rfl, ?_⟩
          · go_simp
          · intro j u hu
            match j with
            | 0 => cases hu; simp [go_sem]
            | j + 1 => simp at hu
        obtain ⟨_, _, _, b4, rfl, _⟩ := hv4
        simp only [Act.put, List.setIfInBounds_toArray, List.set_cons_succ, List.set_cons_zero, Nat.reduceAdd]
        refine wM_op _ rfl rfl (opens_val (fun w' hD => ?ha5)) (fun v5 hv5 => ?na5)
        case ha5 =>
          have hsz2 := hD.1.1
          obtain ⟨_, A3, c3, e3, ho⟩ := hD.get 2 (by first | kernel_rfl | simp [Region.binds])
          cases e3
          obtain ⟨_, b3, e4, hb4⟩ := hD.get 4 (by first | kernel_rfl | simp [Region.binds])
          cases e4
          obtain ⟨A5, c5, w5, hrun, ho5, hk5⟩ := run_append_keep (P := Tryz.prog) w' 37 37 3 1 8 elem_int wr.heap.size _ l.length _ ho ⟨b4, 0, none⟩ 1 1 [.int .i64 (n : Int)] rfl (fun j u hu => by rw [Addr.add_lit, Nat.zero_add]; exact hb4 j u hu) (by simp [Value.oneCell']) (by omega) hsz2 (by omega)
          obtain ⟨g5, rfl⟩ : ∃ g5, A5 = some ⟨g5, 0, none⟩ := own_some ho5
          refine ⟨.slice (some ⟨g5, 0, none⟩) (l.length + 1) c5, w5, exec_append w' _ (.tmp 25) (.tmp 27) 37 ?_ _ _ ?_ ?_ _ _ hrun, ?_, g5, c5, rfl, ⟨(ho5.lt g5 rfl).1, own_cap ho5⟩, rd0_own ho5⟩
          · rfl
          · rfl
          · rfl
          · rcases hk5 with h | ⟨g, cap, e6, e7, rfl, _, hg⟩
            · exact Laid.of_ext h hsz2
            · cases e6; cases e7
              exact Laid.of_grown (by simp) ho ho5 hg
        obtain ⟨_, _, _, g5, c5, rfl, ⟨hg5, _⟩, _⟩ := hv5
        simp only [Act.put, List.setIfInBounds_toArray, List.set_cons_succ, List.set_cons_zero, Nat.reduceAdd]
        refine wM_val ?ua6 rfl rfl Laid.refl (fun w' hD => ?ha6) (fun pha6 => ?na6)
        case ha6 =>
          obtain ⟨dm, dl⟩ := FX.out w' hD.1.2
          go_simp; rfl
        simp only [Act.put, List.setIfInBounds_toArray, List.set_cons_succ, List.set_cons_zero, Nat.reduceAdd]
        refine wM_val ?ua7 rfl rfl Laid.refl (fun w' hD => ?ha7) (fun pha7 => ?na7)
        case ha7 =>
          obtain ⟨dm, dl⟩ := FX.out w' hD.1.2
          go_simp; rfl
        simp only [Act.put, List.setIfInBounds_toArray, List.set_cons_succ, List.set_cons_zero, Nat.reduceAdd]
        refine wM_nil ?_
        intro w9 hw9 hF9
        obtain ⟨⟨_, _⟩, g6, c6, e6, ⟨hg6, hc5⟩, hrd⟩ := hF9 5
        cases e6
        have hb9 : Bel O W w9 := hbl.trans (Ext.bel hw9.2)
        have hov9 : ∃ ov, OBox w9 O ov := by
          obtain ⟨ov, ho⟩ := hov
          exact ⟨ov, ho.ext hw9.2⟩
        have hOlt : O < wr.heap.size := by obtain ⟨ov, ho⟩ := hov; exact ho.lt
        have hcall := HIH.out (l ++ [(n : Int)]) (n + 1) (some ⟨g5, 0, none⟩) (l.length + 1) c5 w9 (by simp) hc5 (fun x hx => by
          rcases List.mem_append.1 hx with hx | hx
          · exact hel x hx
          · have : x = (n : Int) := by simpa using hx
            omega) (by have := HLM.out; simp; omega) (by omega) (hkc.trans hb9) (by show Rd _ _ _; rw [List.map_append]; exact hrd.rd) (fun a e => by cases e; show g5 ≠ O; omega) hov9 (hb9.cell hM hMb) (hb9.cell hBmc hBm) (hb9.cell hBic hBi) (hb9.cell hBbc hBb)
        simp only [Int.natCast_add, Int.natCast_one] at hcall
        have HC := hid hcall
        clear hcall
        have HRN : Hid ((match moreL p wi m (l ++ [(n : Int)]) (n + 1) with | some r => some r | none => tryL (fun n => moreL p wi m (l ++ [(n : Int)]) (n + 1)) (n + 1) (wi - (n + 1))) = R) := by
          unfold Hid
          rw [← HR.out, show wi - n = (wi - (n + 1)) + 1 by omega]
          rfl
        clear HR
        try simp only [List.drop_succ_cons, List.drop_zero]
        go_wp2_with fail
        refine HC.out.mono ?_
        rintro e W4 ⟨rfl, hb4, hov4⟩
        cases hq : moreL p wi m (l ++ [(n : Int)]) (n + 1) with
        | some r =>
          have HQ : Hid (some r = R) := by unfold Hid; rw [← HRN.out, hq]
          rw [hq] at hov4
          clear hq HRN
          obtain ⟨ov4, ho4, hr4⟩ := hov4
          have HR4 := hid hr4
          clear hr4
          go_wp2
          go_ret
          refine ⟨ret_of (bool_of (by rw [← HQ.out]; rfl)), hb9.trans hb4, ov4, ho4, fun r' hr' => HR4.out r' (by rw [← hr', ← HQ.out])⟩
        | none =>
          have HQ : Hid (tryL (fun n => moreL p wi m (l ++ [(n : Int)]) (n + 1)) (n + 1) (wi - (n + 1)) = R) := by unfold Hid; rw [← HRN.out, hq]
          obtain ⟨ov4, ho4, _⟩ := hov4
          clear hq HRN
          go_wp2
          go_roundw
          case rel => exact ⟨n + 1, by omega, by omega, by go_num, HQ, hb9.trans hb4, ov4, ho4⟩
          case measure => simp [intOf]; omega
      · have hlt' : ¬ (n : Int) < (wi : Int) := by omega
        have HQ : Hid (none = R) := by unfold Hid; rw [← HR.out, show wi - n = 0 by omega]; rfl
        obtain ⟨ov, ho⟩ := hov
        clear HR
        go_wp2
        go_ret
        exact ⟨ret_of (bool_of (by rw [← HQ.out]; rfl)), hbl, ov, ho, fun r hr => by rw [← HQ.out] at hr; cases hr⟩

set_option maxRecDepth 100000 in
set_option maxHeartbeats 1000000 in
theorem lists_any (p : List Int → Bool) (wi many O N : Nat) (fv : Value) (w0 w : World) (hwi : wi ≤ 8) (hN : many ≤ N) (hm8 : many ≤ 9) (hfv : IsFn Tryz.prog fv w0 O N wi p) (hb0 : Bel O w0 w) (hov : ∃ ov, OBox w O ov) :
    Calls Tryz.prog 96 #[.int .i64 (many : Int), .int .i64 (wi : Int), fv] w fun e w' => e = .returned (.bool (moreL p wi many [] 0).isSome) ∧ Bel O w w' ∧
      ∃ ov, OBox w' O ov ∧ ∀ r, moreL p wi many [] 0 = some r → ∃ A' c', ov = .slice A' r.length c' ∧ Ints w' A' r ∧ NotIn O A' ∧ r.length ≤ c' := by
  have HFV := hid hfv
  have hOlt : O < w.heap.size := by obtain ⟨ov, ho⟩ := hov; exact ho.lt
  obtain ⟨g, fst, lb, rfl, eg, -⟩ := hfv
  go_enter Tryz.func96, Tryz.ntmps96
  go_wp2_with fail
  obtain ⟨W1, hW1⟩ : ∃ W1, (((w.alloc (.cells #[.int .i64 (many : Int)] 3)).alloc (.cells #[.int .i64 (wi : Int)] 3)).alloc (.cells #[.func (.func g) fst lb] 145)).alloc (.cells #[.func (.func 170) #[] #[.pointer (some ⟨w.heap.size, 0, none⟩), .pointer (some ⟨w.heap.size + 1 + 1, 0, none⟩), .pointer (some ⟨w.heap.size + 1, 0, none⟩), .pointer (some ⟨w.heap.size + 1 + 1 + 1, 0, none⟩)]] 45) = W1 := ⟨_, rfl⟩
  have hx1 : Ext w W1 := by rw [← hW1]; exact ((((Ext.refl w).alloc _).alloc _).alloc _).alloc _
  have c0 : W1.cell? ⟨w.heap.size, 0, none⟩ = some (.int .i64 (many : Int)) := by rw [← hW1]; simp [go_sem]
  have c1 : W1.cell? ⟨w.heap.size + 1, 0, none⟩ = some (.int .i64 (wi : Int)) := by rw [← hW1]; simp [go_sem]
  have c2 : W1.cell? ⟨w.heap.size + 1 + 1, 0, none⟩ = some (.func (.func g) fst lb) := by rw [← hW1]; simp [go_sem]
  have c3 : W1.cell? ⟨w.heap.size + 1 + 1 + 1, 0, none⟩ = some (.func (.func 170) #[] #[.pointer (some ⟨w.heap.size, 0, none⟩), .pointer (some ⟨w.heap.size + 1 + 1, 0, none⟩), .pointer (some ⟨w.heap.size + 1, 0, none⟩), .pointer (some ⟨w.heap.size + 1 + 1 + 1, 0, none⟩)]) := by rw [← hW1]; simp [go_sem]
  try rw [hW1]
  have hcall := lists1_any p wi many O N w.heap.size (w.heap.size + 1 + 1) (w.heap.size + 1) (w.heap.size + 1 + 1 + 1) _ w0 hwi hN hm8 HFV.out (by omega) (by omega) (by omega) (by omega) many [] 0 none 0 0 W1 rfl (Nat.le_refl _) (fun x hx => by cases hx) (by simp) (Nat.zero_le _) (hb0.trans hx1.bel) (Ints.nil _ _) (fun a e => by cases e) (by obtain ⟨ov, ho⟩ := hov; exact ⟨ov, ho.ext hx1⟩) c3 c0 c2 c1
  simp only [Int.natCast_zero] at hcall
  clear hW1
  refine hcall.mono ?_
  rintro e w2 ⟨rfl, hb2, ov2, ho2, hr2⟩
  have HR2 := hid hr2
  clear hr2
  go_wp2
  go_ret
  exact ⟨rfl, (hx1.bel).trans hb2, ov2, ho2, HR2.out⟩

/-! Clash -/
theorem clash1_fn (wi : Nat) (w0 : World) (O Bd Bc D : Nat) (s : Ads) (f : Fg) (g : Mat) (c : Ct) (A1 A2 : Option Addr) (c1 c2 : Nat) (hd : Dk w0 D s f g) (hr : FRows w0 s f) (hok : FogOK f) (hcm : c ∈ f.ct) (hO : w0.heap.size ≤ O)
    (hBd : w0.cell? ⟨Bd, 0, none⟩ = some (.pointer (some ⟨D, 0, none⟩))) (hBc0 : w0.cell? ⟨Bc, 0, none⟩ = some (.slice A1 c.st.length c1)) (hBc1 : w0.cell? ⟨Bc, 1, none⟩ = some (.slice A2 c.rp.length c2)) (hc : CtR w0 (.agg #[.slice A1 c.st.length c1, .slice A2 c.rp.length c2]) c) :
    IsFn Tryz.prog (.func (.func 173) #[] #[.pointer (some ⟨O, 0, none⟩), .pointer (some ⟨Bd, 0, none⟩), .pointer (some ⟨Bc, 0, none⟩)]) w0 O 1000 wi (fun l => !agreedM g f c l) := by
  refine ⟨_, _, _, rfl, enters_of Tryz.func173 (by kernel_rfl) rfl, fun l A ca W hl hel hbW hA hnA ⟨ov, hov⟩ => ?_⟩
  have hxW : Ext w0 W := BelS.ext (hbW.belS (S := fun k => k = O) rfl) (fun k hk e => by omega)
  have o0 := hov.cell
  have o1 := hov.frozen
  have hset := hov.set (.slice A l.length ca)
  have hbs := (Bel.refl O W).setCell 0 (.slice A l.length ca)
  have hxs : Ext w0 (W.setCell ⟨O, 0, none⟩ (.slice A l.length ca)) := hxW.then_bel hO hbs
  have b0 := hxs.cell hBd
  have b1 := hxs.cell hBc0
  have b2 := hxs.cell hBc1
  show Calls _ _ #[_, _, _, _] _ _
  go_enter Tryz.func173, Tryz.ntmps173
  go_wp2_with fail
  refine (agreed_any D s f g c (.agg #[.slice A1 c.st.length c1, .slice A2 c.rp.length c2]) A ca l _ (hd.ext hxs) (hr.ext hxs) hok hcm (hc.ext hxs) (hA.bel hbs hnA) (by omega)).mono ?_
  rintro e W2 ⟨rfl, hb2⟩
  have ho2 := hset.ext hb2
  have hb3 := hbs.trans (hb2.bel (D := O))
  go_wp2
  go_ret
  exact ⟨rfl, hb3, ho2⟩
def clashE (f : Fg) (k : Int) : Int := if cartE f k ≠ 0 then cartE f k else if (clashF (farM f) f (ctAt f k)).isSome then 0 else 6
def clashL (f : Fg) (k : Int) : List Int := if clashE f k = 0 then (clashF (farM f) f (ctAt f k)).getD [] else []
def ClashPost (w : World) (f : Fg) (k : Int) (e : Ending) (w' : World) : Prop := ∃ r, e = .returned (.tuple #[r, .int .i64 (clashE f k)]) ∧ Ext w w' ∧ (∃ A c, r = .slice A (clashL f k).length c ∧ Ints w' A (clashL f k) ∧ (clashL f k).length ≤ c)
set_option maxRecDepth 100000 in
set_option maxHeartbeats 4000000 in
theorem clashx_any (v : Value) (f : Fg) (k : Int) (w : World) (hf : FgR w v f) (hs : f.sized) :
    Calls Tryz.prog 103 #[v, .int .i64 k] w (ClashPost w f k) := by
  obtain ⟨s, rfl, hr⟩ := hf.rows
  obtain ⟨T, hT⟩ : ∃ T, cartE f k = T := ⟨_, rfl⟩
  have HT := hid hT
  clear hT
  have HS := hid hs
  have HX0 : Hid (Ext w (w.alloc (.cells #[.int .i64 f.pl, .int .i64 f.mi, .slice s.a1 f.tr.length s.c1, .slice s.a2 f.bl.length s.c2, .slice s.a3 f.ct.length s.c3] 29))) := Ext.alloc (Ext.refl w) _
  show Calls _ _ #[.agg #[.int .i64 f.pl, .int .i64 f.mi, .slice s.a1 f.tr.length s.c1, .slice s.a2 f.bl.length s.c2, .slice s.a3 f.ct.length s.c3], _] _ _
  go_enter Tryz.func103, Tryz.ntmps103
  go_wp2_with fail
  refine (carted_any (.agg #[.int .i64 f.pl, .int .i64 f.mi, .slice s.a1 f.tr.length s.c1, .slice s.a2 f.bl.length s.c2, .slice s.a3 f.ct.length s.c3]) f k _ (FRows.fg (hr.ext HX0.out)) HS.out).mono ?_
  rintro e w1 ⟨r, rfl, hb1, hr1, hr2⟩
  have hx1 := HX0.out.trans hb1
  have kc0 := hb1.cell (p := ⟨w.heap.size, 0, none⟩) (u := .int .i64 f.pl) (by simp [go_sem])
  have kc1 := hb1.cell (p := ⟨w.heap.size, 1, none⟩) (u := .int .i64 f.mi) (by simp [go_sem])
  have kc2 := hb1.cell (p := ⟨w.heap.size, 2, none⟩) (u := .slice s.a1 f.tr.length s.c1) (by simp [go_sem])
  have kc3 := hb1.cell (p := ⟨w.heap.size, 3, none⟩) (u := .slice s.a2 f.bl.length s.c2) (by simp [go_sem])
  have kc4 := hb1.cell (p := ⟨w.heap.size, 4, none⟩) (u := .slice s.a3 f.ct.length s.c3) (by simp [go_sem])
  clear HX0 hb1
  rw [HT.out]
  by_cases h0 : T = 0
  case neg =>
    have HE0 : Hid (cartE f k ≠ 0) := by unfold Hid; rw [HT.out]; exact h0
    have hr3 := hr2 HE0.out
    subst hr3
    clear hr1 hr2
    have HN : Hid (clashE f k = T) := by unfold Hid clashE; rw [if_pos HE0.out, HT.out]
    have HN2 : Hid (clashE f k ≠ 0) := by unfold Hid; rw [HN.out]; exact h0
    have hxa : Ext w1 (w1.alloc (.cells #[.pointer none] 101)) := Ext.alloc (Ext.refl _) _
    go_wp2
    go_ret2
    exact ⟨.slice none 0 0, by rw [HN.out]; rfl, hx1.trans hxa, by unfold clashL; rw [if_neg HN2.out]; exact ⟨none, 0, rfl, Ints.nil _ _, Nat.zero_le _⟩⟩
  subst h0
  obtain ⟨D, s2, hrD, hdk, hrk⟩ := hr1 HT.out
  subst hrD
  clear hr1 hr2
  obtain ⟨hce, hk0, hk1⟩ := cartE_ok HT.out
  have HOK : Hid (FogOK f) := checkF_ok hce
  obtain ⟨kn, rfl⟩ : ∃ kn : Nat, k = kn := ⟨k.toNat, by omega⟩
  have hkl : kn < f.ct.length := by omega
  have hkl' : (kn : Int) < (f.ct.length : Int) := by omega
  obtain ⟨c, hcg⟩ := get_of_lt f.ct kn hkl
  have HCM : Hid (c ∈ f.ct) := mem_of_get hcg
  have HCA : Hid (ctAt f (kn : Int) = c) := by unfold Hid ctAt; rw [Int.toNat_natCast, List.getD_eq_getElem?_getD, hcg]; rfl
  obtain ⟨cb, co, A1, c1, A2, c2, hA3, cc0, cc1, hCS, hCR, hck1, hck2⟩ := (hr.ct.ext hx1).at_ hcg
  have HA3 := hid hA3
  have HDK := hid hdk
  rw [hA3] at kc4
  rw [HA3.out]
  have hcR : CtR w1 (.agg #[.slice A1 c.st.length c1, .slice A2 c.rp.length c2]) c := ⟨A1, c1, A2, c2, rfl, hCS, hCR, hck1, hck2⟩
  clear hk0 hk1 hce hcg hA3 hkl
  have hrn := HOK.out.rn c HCM.out
  have HCE : Hid (cartE f (kn : Int) = 0) := HT
  have l4 := fun o => (Ext.alloc (Ext.refl w1) o).cell kc4
  have l5 := fun o => (Ext.alloc (Ext.refl w1) o).cell cc0
  have l6 := fun o => (Ext.alloc (Ext.refl w1) o).cell cc1
  go_wp2
  obtain ⟨W2, hW2⟩ : ∃ W2, (w1.alloc (.cells #[.pointer (some ⟨D, 0, none⟩)] 101)).alloc (.cells #[.slice A1 c.st.length c1, .slice A2 c.rp.length c2] 63) = W2 := ⟨_, rfl⟩
  have hx12 : Ext w1 W2 := by rw [← hW2]; exact ((Ext.refl _).alloc _).alloc _
  have hx2 := hx1.trans hx12
  have FX2 : Hid (∀ w', Ext W2 w' → w'.cell? ⟨w1.heap.size, 0, none⟩ = some (.pointer (some ⟨D, 0, none⟩)) ∧ w'.cell? ⟨w1.heap.size + 1, 0, none⟩ = some (.slice A1 c.st.length c1) ∧ w'.cell? ⟨w1.heap.size + 1, 1, none⟩ = some (.slice A2 c.rp.length c2)) := fun w' h => ⟨h.cell (by rw [← hW2]; simp [go_sem]), h.cell (by rw [← hW2]; simp [go_sem]), h.cell (by rw [← hW2]; simp [go_sem])⟩
  have HDK2 := hid (HDK.out.ext hx12)
  have HRK2 := hid (hrk.ext hx12)
  have HCR2 := hid (hcR.ext hx12)
  try rw [hW2]
  clear hW2 l4 l5 l6 hdk HDK hrk hcR hCS hCR
  obtain ⟨R, hR⟩ : ∃ R, clashF (farM f) f c = R := ⟨_, rfl⟩
  have HR : Hid (tryL (fun many => moreL (fun s => !agreedM (farM f) f c s) c.rp.length many [] 0) (0 + 1) (c.rp.length - 0) = R) := hR
  have HRR := hid hR
  clear hR
  go_loopw [28] (fun i wr => ∃ n : Nat, n ≤ c.rp.length ∧ i = .int .i64 (n : Int) ∧ Ext W2 wr ∧ Hid (tryL (fun many => moreL (fun s => !agreedM (farM f) f c s) c.rp.length many [] 0) (n + 1) (c.rp.length - n) = R)) (fun i _ => c.rp.length - (intOf i).toNat)
  case atStart => exact ⟨0, Nat.zero_le _, rfl, Ext.refl _, HR⟩
  case round =>
    clear HR
    obtain ⟨n, hn, rfl, hxr, HR⟩ := hrel
    obtain ⟨d0, d1, d2⟩ := FX2.out wr hxr
    by_cases hlt : n < c.rp.length
    · have hlt' : (n : Int) < (c.rp.length : Int) := by omega
      obtain ⟨W3, hW3⟩ : ∃ W3, wr.alloc (.cells #[.slice none 0 0] 37) = W3 := ⟨_, rfl⟩
      have hx3 : Ext wr W3 := by rw [← hW3]; exact Ext.alloc (Ext.refl _) _
      have ho3 : OBox W3 wr.heap.size (.slice none 0 0) := by rw [← hW3]; exact World.alloc_heap_new _ _
      obtain ⟨e0, e1, e2⟩ := FX2.out W3 (hxr.trans hx3)
      have hcall := lists_any (fun l => !agreedM (farM f) f c l) c.rp.length (n + 1) wr.heap.size 1000 _ wr W3 hrn (by omega) (by omega)
        (clash1_fn c.rp.length wr wr.heap.size w1.heap.size (w1.heap.size + 1) D s2 f (farM f) c A1 A2 c1 c2 (HDK2.out.ext hxr) (HRK2.out.ext hxr) HOK.out HCM.out (Nat.le_refl _) d0 d1 d2 (HCR2.out.ext hxr)) hx3.bel ⟨_, ho3⟩
      simp only [Int.natCast_add, Int.natCast_one] at hcall
      have HC := hid hcall
      clear hcall
      have HRN : Hid ((match moreL (fun s => !agreedM (farM f) f c s) c.rp.length (n + 1) [] 0 with | some r => some r | none => tryL (fun many => moreL (fun s => !agreedM (farM f) f c s) c.rp.length many [] 0) (n + 1 + 1) (c.rp.length - (n + 1))) = R) := by
        unfold Hid
        rw [← HR.out, show c.rp.length - n = (c.rp.length - (n + 1)) + 1 by omega]
        rfl
      clear HR
      go_wp2_with fail
      try rw [hW3]
      clear hW3
      refine HC.out.mono ?_
      rintro e W4 ⟨rfl, hb4, ov4, ho4, hr4⟩
      have hx4 : Ext W2 W4 := hxr.trans (hx3.then_bel (Nat.le_refl _) hb4)
      have oc4 := ho4.cell
      cases hq : moreL (fun s => !agreedM (farM f) f c s) c.rp.length (n + 1) [] 0 with
      | some r =>
        have HQ : Hid (some r = R) := by unfold Hid; rw [← HRN.out, hq]
        obtain ⟨A5, c5, rfl, hI5, -, hC5⟩ := hr4 r hq
        have HN : Hid (clashE f kn = 0) := by unfold Hid clashE; rw [if_neg (fun h => h HCE.out), HCA.out, HRR.out, ← HQ.out]; rfl
        have HL : Hid (clashL f kn = r) := by unfold Hid clashL; rw [if_pos HN.out, HCA.out, HRR.out, ← HQ.out]; rfl
        clear hq HRN hr4
        go_wp2
        go_ret2
        exact ⟨.slice A5 r.length c5, by rw [HN.out]; rfl, hx2.trans hx4, by rw [HL.out]; exact ⟨A5, c5, rfl, hI5, hC5⟩⟩
      | none =>
        have HQ : Hid (tryL (fun many => moreL (fun s => !agreedM (farM f) f c s) c.rp.length many [] 0) (n + 1 + 1) (c.rp.length - (n + 1)) = R) := by unfold Hid; rw [← HRN.out, hq]
        clear hq HRN hr4
        go_wp2
        go_roundw
        case rel => exact ⟨n + 1, by omega, by go_num, hx4, HQ⟩
        case measure => simp [intOf]; omega
    · have hlt' : ¬ (n : Int) < (c.rp.length : Int) := by omega
      have HQ : Hid (none = R) := by unfold Hid; rw [← HR.out, show c.rp.length - n = 0 by omega]; rfl
      have HN : Hid (clashE f kn = 6) := by unfold Hid clashE; rw [if_neg (fun h => h HCE.out), HCA.out, HRR.out, ← HQ.out]; rfl
      have HN2 : Hid (clashE f kn ≠ 0) := by unfold Hid; rw [HN.out]; decide
      clear HR
      go_wp2
      go_ret2
      exact ⟨.slice none 0 0, by rw [HN.out]; rfl, hx2.trans hxr, by unfold clashL; rw [if_neg HN2.out]; exact ⟨none, 0, rfl, Ints.nil _ _, Nat.zero_le _⟩⟩
end Go.Proofs.YtlonpgbapiemcaaGreat

namespace Go.Proofs.YtlonpgbapiemcaaGreat
open Go Go.RowKit Go.Shelf
set_option linter.unusedVariables false
set_option linter.unusedSimpArgs false

theorem block_cell {w : World} {B i : Nat} {cs : Array Value} {T : TypeId} {fr : Nat × Nat} (h : w.heap[B]? = some (.cells cs T fr)) : w.cell? ⟨B, i, none⟩ = cs[i]? := by rw [cell_of_row w B i _ _ _ h]
theorem own_ne {w : World} {base e size n : Nat} {v : Value} {xs : List Value} {X : Nat} {cs : Array Value} {t : TypeId} {m : Nat × Nat} (h : w.ownsRow base e size v n xs) (hX : w.heap[X]? = some (.cells cs t m)) (hne : t ≠ e) : v.ownBlock ≠ some X := by
  intro hq
  rcases h.2 with ⟨rfl, _⟩ | ⟨g, cap, cur, rfl, _, hg, _⟩
  · cases hq
  · cases hq
    rw [hX] at hg
    cases hg
    exact hne rfl

set_option maxRecDepth 100000 in
set_option maxHeartbeats 2000000 in
theorem pairs1_fn (w : World) (Bd Bp Bq D : Nat) (s : Ads) (f : Fg) (g : Mat) (pn qn : Nat) (hd : Dk w D s f g) (hp : pn < 8) (hq : qn < 8) (hB : w.cell? ⟨Bd, 0, none⟩ = some (.pointer (some ⟨D, 0, none⟩)))
    (h0 : w.cell? ⟨Bp, 0, none⟩ = some (.int .i64 (pn : Int))) (h1 : w.cell? ⟨Bq, 0, none⟩ = some (.int .i64 (qn : Int))) :
    FnP Tryz.prog (.func (.func 171) #[] #[.pointer (some ⟨Bd, 0, none⟩), .pointer (some ⟨Bp, 0, none⟩), .pointer (some ⟨Bq, 0, none⟩)]) w PrR (fun c => 0 ≤ c.1 ∧ c.1 < 8) (fun c => heardM g ⟨0, c.1, c.2⟩ pn != heardM g ⟨0, c.1, c.2⟩ qn) := by
  refine ⟨_, _, _, rfl, enters_of Tryz.func171 (by kernel_rfl) rfl, fun x v W hs hW hR => ?_⟩
  obtain ⟨c1, c2⟩ := x
  obtain rfl : v = .agg #[.int .i64 c1, .int .i64 c2] := hR
  simp only at hs
  obtain ⟨cq, rfl⟩ : ∃ q : Nat, c1 = q := ⟨c1.toNat, by omega⟩
  have hBW := hW.cell hB
  have h0W := hW.cell h0
  have h1W := hW.cell h1
  have hcp := hW.cell (hd.at_ (a := cq) (b := pn) (by omega) hp)
  have hcq := hW.cell (hd.at_ (a := cq) (b := qn) (by omega) hq)
  obtain ⟨F, hF⟩ : ∃ F, (heardM g ⟨0, (cq : Int), c2⟩ pn != heardM g ⟨0, (cq : Int), c2⟩ qn) = F := ⟨_, rfl⟩
  have HQ := hid hF
  have HQb := hid (show (!(heardM g ⟨0, (cq : Int), c2⟩ pn == heardM g ⟨0, (cq : Int), c2⟩ qn)) = F from hF)
  simp only [hF]
  clear hF
  have l0 := fun o => (Ext.alloc (Ext.refl W) o).cell hBW
  show Calls _ _ #[_, _, _, _] _ _
  go_enter Tryz.func171, Tryz.ntmps171
  go_wp2
  obtain ⟨W1, hW1⟩ : ∃ W1, (W.alloc (.cells #[.int .i64 (cq : Int), .int .i64 c2] 78)).alloc (.cells #[.int .i64 0, .int .i64 (cq : Int), .int .i64 c2] 39) = W1 := ⟨_, rfl⟩
  have hx1 : Ext W W1 := by rw [← hW1]; exact ((Ext.refl _).alloc _).alloc _
  have FX : Hid (∀ w', Ext W1 w' → w'.cell? ⟨Bd, 0, none⟩ = some (.pointer (some ⟨D, 0, none⟩)) ∧ w'.cell? ⟨W.heap.size + 1, 0, none⟩ = some (.int .i64 0) ∧ w'.cell? ⟨W.heap.size + 1, 1, none⟩ = some (.int .i64 (cq : Int)) ∧ w'.cell? ⟨W.heap.size + 1, 2, none⟩ = some (.int .i64 c2) ∧
      (w'.cell? ⟨Bp, 0, none⟩ = some (.int .i64 (pn : Int)) ∧ w'.cell? ⟨Bq, 0, none⟩ = some (.int .i64 (qn : Int))) ∧ w'.cell? ⟨D, 5 + cq * 8 + pn, none⟩ = some (.int .i64 (g cq pn)) ∧ w'.cell? ⟨D, 5 + cq * 8 + qn, none⟩ = some (.int .i64 (g cq qn))) := fun w' h =>
    ⟨(hx1.trans h).cell hBW, h.cell (by rw [← hW1]; simp [go_sem]), h.cell (by rw [← hW1]; simp [go_sem]), h.cell (by rw [← hW1]; simp [go_sem]), ⟨(hx1.trans h).cell h0W, (hx1.trans h).cell h1W⟩, (hx1.trans h).cell hcp, (hx1.trans h).cell hcq⟩
  try rw [hW1]
  clear hW1 l0
  refine wp_region_shut Ext (fun w' => Ext W1 w') (fun
    | 3 => some (fun v _ => v = .bool (heardM g ⟨0, (cq : Int), c2⟩ pn))
    | 7 => some (fun v _ => v = .bool (heardM g ⟨0, (cq : Int), c2⟩ qn))
    | _ => none) (by kernel_rfl) (by kernel_rfl) (fun _ _ h k => h.trans k) ?hT (Ext.drew (Ext.refl W1)) ?_
  case hT =>
    intro i R hR
    match i, hR with
    | 3, hR => cases hR; exact fun _ _ _ h _ => h
    | 7, hR => cases hR; exact fun _ _ _ h _ => h
  refine wM_val ?ua0 rfl rfl Ext.refl (fun w' hD => ?ha0) (fun pha0 => ?na0)
  case ha0 =>
    obtain ⟨d0, d1, d2, d3, d4, d5, d6⟩ := FX.out w' hD.1
    go_simp; rfl
  simp only [Act.put, List.setIfInBounds_toArray, List.set_cons_succ, List.set_cons_zero, Nat.reduceAdd]
  refine wM_val ?ua1 rfl rfl Ext.refl (fun w' hD => ?ha1) (fun pha1 => ?na1)
  case ha1 =>
    obtain ⟨d0, d1, d2, d3, d4, d5, d6⟩ := FX.out w' hD.1
    go_simp; rfl
  simp only [Act.put, List.setIfInBounds_toArray, List.set_cons_succ, List.set_cons_zero, Nat.reduceAdd]
  refine wM_val ?ua2 rfl rfl Ext.refl (fun w' hD => ?ha2) (fun pha2 => ?na2)
  case ha2 =>
    obtain ⟨d0, d1, d2, d3, d4, d5, d6⟩ := FX.out w' hD.1
    go_simp; rfl
  simp only [Act.put, List.setIfInBounds_toArray, List.set_cons_succ, List.set_cons_zero, Nat.reduceAdd]
  refine wM_op _ rfl rfl (opens_call ?fa3 ?ga3 (fun w' hD => ?ha3) (fun w' hD => ?ca3)) (fun v3 hv3 => ?na3)
  case ha3 => go_simp; constructor <;> rfl
  case ca3 =>
    refine (heardc_any D g ⟨0, (cq : Int), c2⟩ pn w' (FX.out w' hD.1).2.2.2.2.2.1 ⟨by show (0:Int) ≤ (cq : Int); omega, by show (cq : Int) < 8; omega⟩ (by omega)).mono ?_
    rintro e w2 ⟨rfl, hb⟩
    exact ⟨_, rfl, hb, rfl⟩
  obtain ⟨_, -, -, rfl⟩ := hv3
  simp only [Act.put, List.setIfInBounds_toArray, List.set_cons_succ, List.set_cons_zero, Nat.reduceAdd]
  refine wM_val ?ua4 rfl rfl Ext.refl (fun w' hD => ?ha4) (fun pha4 => ?na4)
  case ha4 =>
    obtain ⟨d0, d1, d2, d3, d4, d5, d6⟩ := FX.out w' hD.1
    go_simp; rfl
  simp only [Act.put, List.setIfInBounds_toArray, List.set_cons_succ, List.set_cons_zero, Nat.reduceAdd]
  refine wM_val ?ua5 rfl rfl Ext.refl (fun w' hD => ?ha5) (fun pha5 => ?na5)
  case ha5 =>
    obtain ⟨d0, d1, d2, d3, d4, d5, d6⟩ := FX.out w' hD.1
    go_simp; rfl
  simp only [Act.put, List.setIfInBounds_toArray, List.set_cons_succ, List.set_cons_zero, Nat.reduceAdd]
  refine wM_val ?ua6 rfl rfl Ext.refl (fun w' hD => ?ha6) (fun pha6 => ?na6)
  case ha6 =>
    obtain ⟨d0, d1, d2, d3, d4, d5, d6⟩ := FX.out w' hD.1
    go_simp; rfl
  simp only [Act.put, List.setIfInBounds_toArray, List.set_cons_succ, List.set_cons_zero, Nat.reduceAdd]
  refine wM_op _ rfl rfl (opens_call ?fa7 ?ga7 (fun w' hD => ?ha7) (fun w' hD => ?ca7)) (fun v7 hv7 => ?na7)
  case ha7 => go_simp; constructor <;> rfl
  case ca7 =>
    refine (heardc_any D g ⟨0, (cq : Int), c2⟩ qn w' (FX.out w' hD.1).2.2.2.2.2.2 ⟨by show (0:Int) ≤ (cq : Int); omega, by show (cq : Int) < 8; omega⟩ (by omega)).mono ?_
    rintro e w2 ⟨rfl, hb⟩
    exact ⟨_, rfl, hb, rfl⟩
  obtain ⟨_, -, -, rfl⟩ := hv7
  simp only [Act.put, List.setIfInBounds_toArray, List.set_cons_succ, List.set_cons_zero, Nat.reduceAdd]
  refine wM_val ?ua8 rfl rfl Ext.refl (fun w' hD => ?ha8) (fun pha8 => ?na8)
  case ha8 =>
    obtain ⟨d0, d1, d2, d3, d4, d5, d6⟩ := FX.out w' hD.1
    go_simp; rfl
  simp only [Act.put, List.setIfInBounds_toArray, List.set_cons_succ, List.set_cons_zero, Nat.reduceAdd]
  first | rw [HQ.out] | rw [HQb.out]
  refine wM_val ?ua9 rfl rfl Ext.refl (fun w' hD => ?ha9) (fun pha9 => ?na9)
  case ha9 =>
    obtain ⟨d0, d1, d2, d3, d4, d5, d6⟩ := FX.out w' hD.1
    go_simp; rfl
  simp only [Act.put, List.setIfInBounds_toArray, List.set_cons_succ, List.set_cons_zero, Nat.reduceAdd]
  refine wM_nil ?_
  intro w9 hw9 hF9
  go_wp2
  go_ret
  exact ⟨rfl, hx1.trans hw9⟩

theorem pairsM_drop {g : Mat} {ch : List (Int × Int)} {l : List Int} {i : Nat} {p : Int} (h : l[i]? = some p) : pairsM g ch (l.drop i) = ((l.drop (i + 1)).filter fun q => !toldBy g ch p q).map (fun q => (p, q)) ++ pairsM g ch (l.drop (i + 1)) := by
  have hk : i < l.length := (List.getElem?_eq_some_iff.1 h).1
  rw [List.drop_eq_getElem_cons hk, (List.getElem?_eq_some_iff.1 h).2]
  rfl
set_option maxRecDepth 100000 in
set_option maxHeartbeats 4000000 in
theorem pairs_any (D : Nat) (s : Ads) (f : Fg) (g : Mat) (A1 A2 : Option Addr) (k1 k2 : Nat) (l : List Int) (ch : List (Int × Int)) (w : World) (hd : Dk w D s f g) (hA : Ints w A1 l) (hC : Prs w A2 ch) (hl : ∀ x ∈ l, 0 ≤ x ∧ x < 8) (hl8 : l.length ≤ 8) (hlk : l.length ≤ k1) (hc : ∀ x ∈ ch, 0 ≤ x.1 ∧ x.1 < 8) (hcl : ch.length ≤ 9223372036854775807) :
    Calls Tryz.prog 98 #[.pointer (some ⟨D, 0, none⟩), .slice A1 l.length k1, .slice A2 ch.length k2] w fun e w' => ∃ A k, e = .returned (.slice A (pairsM g ch l).length k) ∧ Ext w w' ∧ w'.ownsRow w.heap.size 78 2 (.slice A (pairsM g ch l).length k) (pairsM g ch l).length (layPr.rows (pairsM g ch l)) := by
  have HF : Hid (pairsM g ch l = [] ++ pairsM g ch (l.drop 0)) := rfl
  generalize hF : pairsM g ch l = F at HF ⊢
  clear hF
  have HL := hid hl
  have HC := hid hc
  clear hl hc
  go_enter Tryz.func98, Tryz.ntmps98
  go_wp2
  obtain ⟨W1, hW1⟩ : ∃ W1, w.alloc (.cells #[.pointer (some ⟨D, 0, none⟩)] 101) = W1 := ⟨_, rfl⟩
  have hx1 : Ext w W1 := by rw [← hW1]; exact (Ext.refl _).alloc _
  have hbd : W1.heap[w.heap.size]? = some (.cells #[.pointer (some ⟨D, 0, none⟩)] 101 (0, 0)) := by rw [← hW1]; exact World.alloc_heap_new _ _
  try rw [hW1]
  clear hW1
  go_loopw [14, 7] (fun i14 i7 wr => ∃ (i : Nat) (acc : List (Int × Int)) (A : Option Addr) (k : Nat), i ≤ l.length ∧ i14 = .int .i64 (i : Int) ∧ i7 = .slice A acc.length k ∧ wr.ownsRow w.heap.size 78 2 (.slice A acc.length k) acc.length (layPr.rows acc) ∧ acc.length ≤ 8 * i ∧ Hid (F = acc ++ pairsM g ch (l.drop i)) ∧ Ext w wr ∧ wr.heap[w.heap.size]? = some (.cells #[.pointer (some ⟨D, 0, none⟩)] 101 (0, 0))) (fun i _ _ => l.length - (intOf i).toNat)
  case atStart => exact ⟨0, [], none, 0, Nat.zero_le _, rfl, rfl, own_nil _ _ _ _, Nat.le_refl _, HF, hx1, hbd⟩
  case round =>
    clear HF
    obtain ⟨i, acc, A, k, hi, rfl, rfl, hown, hacc, HF, hxr, hbr⟩ := hrel
    by_cases hlt : i < l.length
    · have hlt' : (i : Int) < (l.length : Int) := by omega
      obtain ⟨p, hp⟩ := get_of_lt l i hlt
      have hpb := HL.out p (mem_of_get hp)
      obtain ⟨pn, rfl⟩ : ∃ pn : Nat, p = pn := ⟨p.toNat, by omega⟩
      obtain ⟨b1, o1, eA, c0⟩ := (hA.ext hxr).at_ hp
      have HPD := hid (pairsM_drop (g := g) (ch := ch) hp)
      subst eA
      have HOW := hid hown
      clear hp hown
      have hk1 : i + 1 ≤ k1 := by omega
      by_cases hk : k1 = i + 1
      · subst hk
        have hlen : l.length - (i + 1) = 0 := by omega
        have hN : Hid (F = acc ++ pairsM g ch (l.drop (i + 1))) := by
          unfold Hid
          rw [HF.out, HPD.out, List.drop_eq_nil_of_le (by omega)]
          rfl
        have hxa : Ext wr (wr.alloc (.cells #[.int .i64 (pn : Int)] 3)) := Ext.alloc (Ext.refl _) _
        have ow2 := hid (own_below HOW.out hxa)
        have hb2 := hid ((Below.block hxa _ (Array.getElem?_eq_some_iff.1 hbr).1).trans hbr)
        have hx2 := hid (hxr.trans hxa)
        clear hxa hxr hbr HOW
        go_wp2
        refine wp_loop_rounds 1 ?_
        rw [rounds_succ]
        go_wp2
        go_roundw
        case rel => exact ⟨i + 1, acc, A, k, by omega, by go_num, rfl, ow2.out, by omega, hN, hx2.out, hb2.out⟩
        case measure => simp [intOf]; omega
      have hkk : ¬ k1 = i + 1 := hk
      obtain ⟨X, hX⟩ : ∃ X, wr.heap.size = X := ⟨_, rfl⟩
      obtain ⟨W2, hW2⟩ : ∃ W2, wr.alloc (.cells #[.int .i64 (pn : Int)] 3) = W2 := ⟨_, rfl⟩
      have hx12 : Ext wr W2 := by rw [← hW2]; exact Ext.alloc (Ext.refl _) _
      have hbx2 : Box8 W2 X (pn : Int) := by rw [← hW2, ← hX]; exact World.alloc_heap_new _ _
      have HO2 := hid (own_below HOW.out hx12)
      have HB2 := hid ((Below.block hx12 _ (Array.getElem?_eq_some_iff.1 hbr).1).trans hbr)
      have HX2 := hid (hxr.trans hx12)
      have HBX2 := hid hbx2
      have HF2 : Hid (F = acc ++ (((l.drop (i + 1 + 0)).filter fun q => !toldBy g ch (pn : Int) q).map (fun q => ((pn : Int), q)) ++ pairsM g ch (l.drop (i + 1)))) := by
        unfold Hid
        rw [HF.out, HPD.out]
      clear hbx2 HOW hbr hxr hx12 HF HPD
      go_wp2
      try rw [hW2]
      try rw [hX]
      clear hW2 hX
      go_loopw [24, 7] (fun i24 i7 V => ∃ (j : Nat) (acc2 : List (Int × Int)) (A3 : Option Addr) (k3 : Nat), j ≤ l.length - (i + 1) ∧ i24 = .int .i64 (j : Int) ∧ i7 = .slice A3 acc2.length k3 ∧ V.ownsRow w.heap.size 78 2 (.slice A3 acc2.length k3) acc2.length (layPr.rows acc2) ∧ acc2.length ≤ 8 * i + j ∧
          Hid (F = acc2 ++ (((l.drop (i + 1 + j)).filter fun q => !toldBy g ch (pn : Int) q).map (fun q => ((pn : Int), q)) ++ pairsM g ch (l.drop (i + 1)))) ∧ Ext w V ∧ V.heap[w.heap.size]? = some (.cells #[.pointer (some ⟨D, 0, none⟩)] 101 (0, 0)) ∧ Box8 V X (pn : Int)) (fun i24 _ _ => l.length - (intOf i24).toNat)
      case atStart => exact ⟨0, acc, A, k, Nat.zero_le _, rfl, rfl, HO2.out, by omega, HF2, HX2.out, HB2.out, HBX2.out⟩
      case round =>
        clear HF2 HO2 HX2 HB2 HBX2
        obtain ⟨j, acc2, A3, k3, hj, rfl, rfl, hown, hacc2, HF, hxr, hbr, hbx⟩ := hrel
        obtain ⟨V, hVr⟩ : ∃ V : World, V = wr := ⟨_, rfl⟩
        subst hVr
        by_cases hltj : j < l.length - (i + 1)
        · have hltj' : (j : Int) < ((l.length - (i + 1) : Nat) : Int) := by omega
          obtain ⟨q, hq⟩ := get_of_lt l (i + 1 + j) (by omega)
          have hqb := HL.out q (mem_of_get hq)
          obtain ⟨qn, rfl⟩ : ∃ qn : Nat, q = qn := ⟨q.toNat, by omega⟩
          obtain ⟨b9, o9, e9, c9⟩ := (hA.ext hxr).at_ hq
          cases e9
          have hdr : (l.drop (i + 1 + j)).filter (fun q => !toldBy g ch (pn : Int) q) = (if toldBy g ch (pn : Int) (qn : Int) then [] else [(qn : Int)]) ++ (l.drop (i + 1 + (j + 1))).filter (fun q => !toldBy g ch (pn : Int) q) := by
            rw [List.drop_eq_getElem_cons (by omega), (List.getElem?_eq_some_iff.1 hq).2, List.filter_cons]
            rw [show i + 1 + j + 1 = i + 1 + (j + 1) by omega]
            cases toldBy g ch (pn : Int) (qn : Int) <;> simp
          have HDR := hid hdr
          have hpb : pn < 8 := by omega
          have hqb8 : qn < 8 := by omega
          have c1 : V.cell? ⟨b1, o1 + (i + 1) + j, none⟩ = some (.int .i64 (qn : Int)) := by rw [show o1 + (i + 1) + j = o1 + (i + 1 + j) by omega]; exact c9
          have c2 := hbx.cell
          have c3 := block_cell (i := 0) hbr
          simp only [List.getElem?_toArray, List.getElem?_cons_zero] at c3
          have HOW := hid hown
          have HBR := hid hbr
          have HBX := hid hbx
          obtain ⟨Y, hY⟩ : ∃ Y, V.heap.size = Y := ⟨_, rfl⟩
          obtain ⟨W3, hW3⟩ : ∃ W3, V.alloc (.cells #[.int .i64 (qn : Int)] 3) = W3 := ⟨_, rfl⟩
          have hx3 : Ext V W3 := by rw [← hW3]; exact Ext.alloc (Ext.refl _) _
          have hY3 : W3.cell? ⟨Y, 0, none⟩ = some (.int .i64 (qn : Int)) := by rw [← hW3, ← hY]; simp [go_sem]
          have hcon := containsFunc_pair A2 k2 ch _ _ _ W3 (hC.ext (hxr.trans hx3)) hcl HC.out (pairs1_fn W3 w.heap.size X Y D s f g pn qn ((hd.ext hxr).ext hx3) hpb hqb8 (hx3.cell c3) (hx3.cell c2) hY3)
          have hany : (ch.any fun c => heardM g ⟨0, c.1, c.2⟩ pn != heardM g ⟨0, c.1, c.2⟩ qn) = toldBy g ch (pn : Int) (qn : Int) := rfl
          rw [hany] at hcon
          have HCON := hid hcon
          clear hdr hq hown hbr hbx hcon hany
          go_wp2_with fail
          try rw [hW3]
          try rw [hY]
          refine HCON.out.mono ?_
          rintro e W4 ⟨rfl, hb34⟩
          have hx4 := hx3.trans hb34
          have hxw4 := hxr.trans hx4
          have d2 := hx4.cell c2
          have d1 := hb34.cell hY3
          have own4 := own_below HOW.out hx4
          have hb4 := (Below.block hx4 _ (Array.getElem?_eq_some_iff.1 HBR.out).1).trans HBR.out
          have hbx4 := HBX.out.ext hx4
          clear hW3 hY c9 c1 c2 c3
          cases ht : toldBy g ch (pn : Int) (qn : Int)
          · have HN : Hid (F = (acc2 ++ [((pn : Int), (qn : Int))]) ++ (((l.drop (i + 1 + (j + 1))).filter fun q => !toldBy g ch (pn : Int) q).map (fun q => ((pn : Int), q)) ++ pairsM g ch (l.drop (i + 1)))) := by
              unfold Hid
              rw [HF.out, HDR.out, ht]
              simp
            obtain ⟨W5, hW5⟩ : ∃ W5, W4.alloc (.cells #[.int .i64 (pn : Int), .int .i64 (qn : Int)] 78) = W5 := ⟨_, rfl⟩
            have hx5 : Ext W4 W5 := by rw [← hW5]; exact Ext.alloc (Ext.refl _) _
            have hrd5 : Rd W5 (some ⟨W4.heap.size, 0, none⟩) (layPr.rows [((pn : Int), (qn : Int))]) := .inr ⟨W4.heap.size, 0, rfl, fun j u hu => by
              match j, hu with
              | 0, hu => cases hu; rw [← hW5]; simp [go_sem]
              | 1, hu => cases hu; rw [← hW5]; simp [go_sem]
              | j + 2, hu => simp [Lay.rows, layPr] at hu⟩
            have OW5 := hid (own_below own4 hx5)
            have hb5 := (Below.block hx5 _ (Array.getElem?_eq_some_iff.1 hb4).1).trans hb4
            have hbx5 := hbx4.ext hx5
            have hxw5 := hxw4.trans hx5
            have hsz5 := hxw5.size
            have hnb : (acc2.length + 1) * 16 ≤ 140737488355328 := by omega
            have HB5 := hid hb5
            have HBX5 := hid hbx5
            have HRD := hid hrd5
            have HXW := hid hxw5
            clear ht own4 hb4 hbx4 hb5 hbx5 hrd5 hxw4 hxw5 HF HDR HOW HBR HBX
            go_wp2_with (at_builtin; (try rw [hW5]); refine wpList_append_rd2 _ rfl _ _ 23 rfl elem_pair w.heap.size _ acc2.length (layPr.rows acc2) rfl OW5.out (some ⟨W4.heap.size, 0, none⟩) 1 1 (layPr.rows [((pn : Int), (qn : Int))]) rfl rfl HRD.out (layPr.rows_one _) hnb hsz5 ?_)
            intro A6 k6 W6 own6 hbel6 hgr6 hloc6
            rw [← Lay.rows_app] at own6
            have hlen6 : acc2.length + 1 = (acc2 ++ [((pn : Int), (qn : Int))]).length := by simp
            have hxw6 : Ext w W6 := Ext.grown HXW.out hgr6 (fun k e => (OW5.out.lt k e).1)
            have hb6 := (hgr6.block _ (Array.getElem?_eq_some_iff.1 HB5.out).1 (fun e => own_ne OW5.out HB5.out (by decide) e.symm)).trans HB5.out
            have hbx6 : Box8 W6 X (pn : Int) := (hgr6.block _ (Array.getElem?_eq_some_iff.1 HBX5.out).1 (fun e => own_ne OW5.out HBX5.out (by decide) e.symm)).trans HBX5.out
            have HO6 := hid own6
            have HB6 := hid hb6
            have HBX6 := hid hbx6
            have HLEN := hid hlen6
            clear own6 hb6 hbx6 hlen6 hloc6 hgr6 hbel6
            go_wp2
            go_roundw
            case rel => exact ⟨j + 1, acc2 ++ [((pn : Int), (qn : Int))], A6, k6, by omega, by go_num, by rw [← HLEN.out], by rw [← HLEN.out]; exact HO6.out, by rw [← HLEN.out]; omega, HN, hxw6, HB6.out, HBX6.out⟩
            case measure => simp [intOf]; omega
          · have HN : Hid (F = acc2 ++ (((l.drop (i + 1 + (j + 1))).filter fun q => !toldBy g ch (pn : Int) q).map (fun q => ((pn : Int), q)) ++ pairsM g ch (l.drop (i + 1)))) := by
              unfold Hid
              rw [HF.out, HDR.out, ht]
              simp
            have HO4 := hid own4
            have HB4 := hid hb4
            have HBX4 := hid hbx4
            clear ht own4 hb4 hbx4 HF HDR
            go_wp2
            go_roundw
            case rel => exact ⟨j + 1, acc2, A3, k3, by omega, by go_num, rfl, HO4.out, by omega, HN, hxw4, HB4.out, HBX4.out⟩
            case measure => simp [intOf]; omega
        · have hltj' : ¬ (j : Int) < ((l.length - (i + 1) : Nat) : Int) := by omega
          have HN : Hid (F = acc2 ++ pairsM g ch (l.drop (i + 1))) := by
            unfold Hid
            rw [HF.out, List.drop_eq_nil_of_le (by omega)]
            rfl
          have HO4 := hid hown
          have HB4 := hid hbr
          clear hown hbr HF
          go_wp2
          go_roundw
          case rel => exact ⟨i + 1, acc2, A3, k3, by omega, by go_num, rfl, HO4.out, by omega, HN, hxr, HB4.out⟩
          case measure => simp [intOf]; omega
    · have hlt' : ¬ (i : Int) < (l.length : Int) := by omega
      have HN : Hid (acc = F) := by
        unfold Hid
        rw [HF.out, List.drop_eq_nil_of_le (by omega)]
        simp [pairsM]
      have HO4 := hid hown
      clear hown hbr HF
      go_wp2
      go_ret
      exact ⟨A, k, by rw [HN.out]; rfl, hxr, by rw [← HN.out]; exact HO4.out⟩
end Go.Proofs.YtlonpgbapiemcaaGreat

namespace Go.Proofs.YtlonpgbapiemcaaGreat
open Go Go.RowKit Go.Shelf
set_option linter.unusedVariables false
set_option linter.unusedSimpArgs false

theorem loudM_len (l : List Int) (n : Int) : (loudM l n).length = l.length := by simp [loudM]
set_option maxRecDepth 100000 in
set_option maxHeartbeats 2000000 in
theorem loud_any (A : Option Addr) (k : Nat) (l : List Int) (n : Int) (w : World) (hA : Ints w A l) (hl : l.length ≤ 1000) :
    Calls Tryz.prog 99 #[.slice A l.length k, .int .i64 n] w fun e w' => ∃ A' k', e = .returned (.slice A' l.length k') ∧ Ext w w' ∧ w'.ownsRow w.heap.size 78 2 (.slice A' (loudM l n).length k') (loudM l n).length (layPr.rows (loudM l n)) := by
  go_enter Tryz.func99, Tryz.ntmps99
  go_wp2
  go_loopw [10, 5] (fun i10 i5 wr => ∃ (i : Nat) (A3 : Option Addr) (k3 : Nat), i ≤ l.length ∧ i10 = .int .i64 (i : Int) ∧ i5 = .slice A3 i k3 ∧ wr.ownsRow w.heap.size 78 2 (.slice A3 i k3) i (layPr.rows (loudM (l.take i) n)) ∧ Ext w wr) (fun i _ _ => l.length - (intOf i).toNat)
  case atStart => exact ⟨0, none, 0, Nat.zero_le _, rfl, rfl, own_nil _ _ _ _, Ext.refl _⟩
  case round =>
    obtain ⟨i, A3, k3, hi, rfl, rfl, hown, hxr⟩ := hrel
    have HOW := hid hown
    by_cases hlt : i < l.length
    · have hlt' : (i : Int) < (l.length : Int) := by omega
      obtain ⟨x, hx⟩ := get_of_lt l i hlt
      obtain ⟨b, off, eA, c0⟩ := (hA.ext hxr).at_ hx
      subst eA
      obtain ⟨W5, hW5⟩ : ∃ W5, wr.alloc (.cells #[.int .i64 x, .int .i64 n] 78) = W5 := ⟨_, rfl⟩
      have hx5 : Ext wr W5 := by rw [← hW5]; exact Ext.alloc (Ext.refl _) _
      have hrd5 : Rd W5 (some ⟨wr.heap.size, 0, none⟩) (layPr.rows [(x, n)]) := .inr ⟨wr.heap.size, 0, rfl, fun j u hu => by
        match j, hu with
        | 0, hu => cases hu; rw [← hW5]; simp [go_sem]
        | 1, hu => cases hu; rw [← hW5]; simp [go_sem]
        | j + 2, hu => simp [Lay.rows, layPr] at hu⟩
      have OW5 := hid (own_below HOW.out hx5)
      have hxw5 := hxr.trans hx5
      have hsz5 := hxw5.size
      have hnb : (i + 1) * 16 ≤ 140737488355328 := by omega
      have HRD := hid hrd5
      have HXW := hid hxw5
      have HTK : Hid (loudM (l.take i) n ++ [(x, n)] = loudM (l.take (i + 1)) n) := by
        unfold Hid loudM
        rw [List.take_add_one, hx, List.map_append]
        rfl
      clear hown hrd5 hxw5 hx HOW
      go_wp2_with (at_builtin; (try rw [hW5]); refine wpList_append_rd2 _ rfl _ _ 23 rfl elem_pair w.heap.size _ i (layPr.rows (loudM (l.take i) n)) rfl OW5.out (some ⟨wr.heap.size, 0, none⟩) 1 1 (layPr.rows [(x, n)]) rfl rfl HRD.out (layPr.rows_one _) hnb hsz5 ?_)
      intro A6 k6 W6 own6 hbel6 hgr6 hloc6
      rw [← Lay.rows_app, HTK.out] at own6
      have hxw6 : Ext w W6 := Ext.grown HXW.out hgr6 (fun k e => (OW5.out.lt k e).1)
      have HO6 := hid own6
      clear own6 hloc6 hgr6 hbel6
      go_wp2
      go_roundw
      case rel => exact ⟨i + 1, A6, k6, by omega, by go_num, rfl, HO6.out, hxw6⟩
      case measure => simp [intOf]; omega
    · have hlt' : ¬ (i : Int) < (l.length : Int) := by omega
      have hie : i = l.length := by omega
      clear hown
      subst hie
      rw [List.take_of_length_le (Nat.le_refl _)] at HOW
      go_wp2
      go_ret
      exact ⟨A3, k3, rfl, hxr, by rw [loudM_len]; exact HOW.out⟩

/-- What placed answers. -/
def placedE (f : Fg) (k m n : Int) : Int := if cartE f k ≠ 0 then cartE f k else if miOK f m && inB n 0 7 then (if lostF (farM f) f (ctAt f k) then 7 else 0) else 3
def placedL (f : Fg) (k m n : Int) : List Int := if placedE f k m n = 0 then natI (canN (farM f) f (ctAt f k) m.toNat) else []
theorem placedE_ok {f : Fg} {k m n : Int} (h : placedE f k m n = 0) : cartE f k = 0 ∧ miOK f m = true ∧ inB n 0 7 = true ∧ lostF (farM f) f (ctAt f k) = false := by
  unfold placedE at h
  split at h
  · rename_i h1; exact absurd h h1
  · rename_i h1
    split at h
    · rename_i h2
      split at h
      · cases h
      · rename_i h3
        simp only [Bool.and_eq_true] at h2
        exact ⟨by simpa using h1, h2.1, h2.2, by simpa using h3⟩
    · cases h
theorem canN_lt {g : Mat} {f : Fg} {c : Ct} (h8 : f.pl ≤ 8) (m : Nat) : (∀ x ∈ natI (canN g f c m), 0 ≤ x ∧ x < 8) ∧ (natI (canN g f c m)).length ≤ 8 := by
  refine ⟨fun x hx => ?_, ?_⟩
  · unfold natI at hx
    obtain ⟨q, hq, rfl⟩ := List.mem_map.1 hx
    rw [canN_canP] at hq
    have h2 := List.mem_range.1 (List.mem_filter.1 hq).1
    exact ⟨by omega, by omega⟩
  · rw [natI_len, canN_canP]
    exact Nat.le_trans (canP_len _ _ _ _ _) (by omega)
def PlacedPost (w : World) (f : Fg) (k m n : Int) (e : Ending) (w' : World) : Prop := ∃ r pv, e = .returned (.tuple #[r, pv, .int .i64 (placedE f k m n)]) ∧ Ext w w' ∧ IntsR w' pv (placedL f k m n) ∧ (placedE f k m n = 0 → DkR w' r f) ∧ (placedE f k m n ≠ 0 → r = .pointer none)
set_option maxRecDepth 100000 in
set_option maxHeartbeats 4000000 in
theorem placed_any (v : Value) (f : Fg) (k m n : Int) (w : World) (hf : FgR w v f) (hs : f.sized) :
    Calls Tryz.prog 95 #[v, .int .i64 k, .int .i64 m, .int .i64 n] w (PlacedPost w f k m n) := by
  have hnil := @Lib.run_eql_slice_nil Tryz.prog
  obtain ⟨s, rfl, hr⟩ := hf.rows
  obtain ⟨T, hT⟩ : ∃ T, cartE f k = T := ⟨_, rfl⟩
  have HT := hid hT
  clear hT
  have HS := hid hs
  have HX0 : Hid (Ext w (w.alloc (.cells #[.int .i64 f.pl, .int .i64 f.mi, .slice s.a1 f.tr.length s.c1, .slice s.a2 f.bl.length s.c2, .slice s.a3 f.ct.length s.c3] 29))) := Ext.alloc (Ext.refl w) _
  show Calls _ _ #[.agg #[.int .i64 f.pl, .int .i64 f.mi, .slice s.a1 f.tr.length s.c1, .slice s.a2 f.bl.length s.c2, .slice s.a3 f.ct.length s.c3], _, _, _] _ _
  go_enter Tryz.func95, Tryz.ntmps95
  go_wp2_with fail
  refine (carted_any (.agg #[.int .i64 f.pl, .int .i64 f.mi, .slice s.a1 f.tr.length s.c1, .slice s.a2 f.bl.length s.c2, .slice s.a3 f.ct.length s.c3]) f k _ (FRows.fg (hr.ext HX0.out)) HS.out).mono ?_
  rintro e w1 ⟨r, rfl, hb1, hr1, hr2⟩
  have hx1 := HX0.out.trans hb1
  have kc0 := hb1.cell (p := ⟨w.heap.size, 0, none⟩) (u := .int .i64 f.pl) (by simp [go_sem])
  have kc1 := hb1.cell (p := ⟨w.heap.size, 1, none⟩) (u := .int .i64 f.mi) (by simp [go_sem])
  have kc2 := hb1.cell (p := ⟨w.heap.size, 2, none⟩) (u := .slice s.a1 f.tr.length s.c1) (by simp [go_sem])
  have kc3 := hb1.cell (p := ⟨w.heap.size, 3, none⟩) (u := .slice s.a2 f.bl.length s.c2) (by simp [go_sem])
  have kc4 := hb1.cell (p := ⟨w.heap.size, 4, none⟩) (u := .slice s.a3 f.ct.length s.c3) (by simp [go_sem])
  clear HX0 hb1
  rw [HT.out]
  by_cases h0 : T = 0
  case neg =>
    have HE0 : Hid (cartE f k ≠ 0) := by unfold Hid; rw [HT.out]; exact h0
    have hr3 := hr2 HE0.out
    subst hr3
    clear hr1 hr2
    have HN : Hid (placedE f k m n = T) := by unfold Hid placedE; rw [if_pos HE0.out, HT.out]
    have HN2 : Hid (placedE f k m n ≠ 0) := by unfold Hid; rw [HN.out]; exact h0
    go_wp2
    go_ret3
    exact ⟨.pointer none, .slice none 0 0, by rw [HN.out]; rfl, hx1, by unfold placedL; rw [if_neg HN2.out]; exact IntsR.nil _, fun h => absurd h HN2.out, fun _ => rfl⟩
  subst h0
  obtain ⟨D, s2, hrD, hdk, hrk⟩ := hr1 HT.out
  subst hrD
  clear hr1 hr2
  obtain ⟨hce, hk0, hk1⟩ := cartE_ok HT.out
  have HOK : Hid (FogOK f) := checkF_ok hce
  obtain ⟨kn, rfl⟩ : ∃ kn : Nat, k = kn := ⟨k.toNat, by omega⟩
  have hkl : kn < f.ct.length := by omega
  have hkl' : (kn : Int) < (f.ct.length : Int) := by omega
  obtain ⟨c, hcg⟩ := get_of_lt f.ct kn hkl
  have HCM : Hid (c ∈ f.ct) := mem_of_get hcg
  have HCA : Hid (ctAt f (kn : Int) = c) := by unfold Hid ctAt; rw [Int.toNat_natCast, List.getD_eq_getElem?_getD, hcg]; rfl
  obtain ⟨cb, co, A1, c1, A2, c2, hA3, cc0, cc1, hCS, hCR, hck1, hck2⟩ := (hr.ct.ext hx1).at_ hcg
  have HA3 := hid hA3
  have HDK := hid hdk
  rw [hA3] at kc4
  rw [HA3.out]
  have hcR : CtR w1 (.agg #[.slice A1 c.st.length c1, .slice A2 c.rp.length c2]) c := ⟨A1, c1, A2, c2, rfl, hCS, hCR, hck1, hck2⟩
  clear hk0 hk1 hce hcg hA3 hkl
  go_wp2_with fail
  refine (minute_any (.agg #[.int .i64 f.pl, .int .i64 f.mi, .slice s.a1 f.tr.length s.c1, .slice s.a2 f.bl.length s.c2, .slice (some ⟨cb, co, none⟩) f.ct.length s.c3]) f m w1 (by have := FRows.fg (hr.ext hx1); unfold Ads.val fval at this; rw [HA3.out] at this; exact this)).mono ?_
  rintro e w2 ⟨rfl, hb2⟩
  have hx2 := hx1.trans hb2
  have h4 := hb2.cell kc4
  have h5 := hb2.cell cc0
  have h6 := hb2.cell cc1
  have HCE : Hid (cartE f (kn : Int) = 0) := HT
  cases hq : miOK f m
  · have HN : Hid (placedE f kn m n = 3) := by unfold Hid placedE; rw [if_neg (fun h => h HCE.out), hq]; rfl
    have HN2 : Hid (placedE f kn m n ≠ 0) := by unfold Hid; rw [HN.out]; decide
    go_wp2
    go_ret3
    exact ⟨.pointer none, .slice none 0 0, by rw [HN.out]; rfl, hx2, by unfold placedL; rw [if_neg HN2.out]; exact IntsR.nil _, fun h => absurd h HN2.out, fun _ => rfl⟩
  have hmm := inB_iff.1 hq
  obtain ⟨mn, rfl⟩ : ∃ mn : Nat, m = mn := ⟨m.toNat, by omega⟩
  have HQ := hid hq
  have hmi := HOK.out.mi
  have hmn : mn ≤ f.mi.toNat := by omega
  have hmn' : (mn : Int) < (f.mi.toNat : Int) + 1 := by omega
  have hmx : (mn : Int) < max f.mi 0 + 1 := by omega
  clear hq hmm
  go_wp2_with fail
  refine (in_any n 0 7 w2).mono ?_
  rintro e w2b ⟨rfl, hw2⟩
  subst hw2
  cases hq2 : inB n 0 7
  · have HN : Hid (placedE f kn mn n = 3) := by unfold Hid placedE; rw [if_neg (fun h => h HCE.out), HQ.out, hq2]; rfl
    have HN2 : Hid (placedE f kn mn n ≠ 0) := by unfold Hid; rw [HN.out]; decide
    go_wp2
    go_ret3
    exact ⟨.pointer none, .slice none 0 0, by rw [HN.out]; rfl, hx2, by unfold placedL; rw [if_neg HN2.out]; exact IntsR.nil _, fun h => absurd h HN2.out, fun _ => rfl⟩
  have HQ2 := hid hq2
  clear hq2
  go_wp2_with fail
  refine (can_any D s2 f (farM f) c (.agg #[.slice A1 c.st.length c1, .slice A2 c.rp.length c2]) w2 (HDK.out.ext hb2) (hrk.ext hb2) HOK.out HCM.out (hcR.ext hb2)).mono ?_
  rintro e w3 ⟨vv, rfl, hb3, hl1, hl2⟩
  have hx3 := hx2.trans hb3
  cases hl : lostF (farM f) f c
  · obtain ⟨A9, k9, e9, hI9, hk9⟩ := hl2 hl
    subst e9
    have HN : Hid (placedE f kn mn n = 0) := by unfold Hid placedE; rw [if_neg (fun h => h HCE.out), HQ.out, HQ2.out, HCA.out, hl]; rfl
    obtain ⟨rb, ro, A7, k7, eA9, q0, hI7, hk7⟩ := hI9.at_ (canL_get hmn)
    cases eA9
    have hni := natI_len (canN (farM f) f c mn)
    have HNI := hid hni
    rw [hni] at q0 hk7
    have HI7 := hid hI7
    have HD3 : Hid (DkR w3 (.pointer (some ⟨D, 0, none⟩)) f) := ⟨D, s2, rfl, (HDK.out.ext hb2).ext hb3, (hrk.ext hb2).ext hb3⟩
    have q0d : w3.drew.cell? ⟨rb, ro + mn, none⟩ = some (.slice A7 (canN (farM f) f c mn).length k7) := q0
    clear hl hl1 hl2 hni hI7 hI9
    go_wp2
    go_quiet (fail)
    go_wp2
    go_ret3
    exact ⟨.pointer (some ⟨D, 0, none⟩), .slice A7 (canN (farM f) f c mn).length k7, by rw [HN.out]; rfl, hx3.trans (Ext.drewN (Ext.refl _) _), by unfold placedL; rw [if_pos HN.out, HCA.out, Int.toNat_natCast]; exact ⟨A7, k7, by rw [HNI.out], HI7.out.ext (Ext.drewN (Ext.refl _) _), by rw [HNI.out]; exact hk7⟩, fun _ => HD3.out.ext (Ext.drewN (Ext.refl _) _), fun h => absurd HN.out h⟩
  · have e9 := hl1 hl
    subst e9
    have HN : Hid (placedE f kn mn n = 7) := by unfold Hid placedE; rw [if_neg (fun h => h HCE.out), HQ.out, HQ2.out, HCA.out, hl]; rfl
    have HN2 : Hid (placedE f kn mn n ≠ 0) := by unfold Hid; rw [HN.out]; decide
    clear hl hl1 hl2
    go_wp2
    go_ret3
    exact ⟨.pointer none, .slice none 0 0, by rw [HN.out]; rfl, hx3, by unfold placedL; rw [if_neg HN2.out]; exact IntsR.nil _, fun h => absurd h HN2.out, fun _ => rfl⟩

/-! Twins -/
def PrsR (w : World) (v : Value) (l : List (Int × Int)) : Prop := ∃ A k, v = .slice A l.length k ∧ Prs w A l
theorem PrsR.nil (w : World) : PrsR w (.slice none 0 0) [] := ⟨none, 0, rfl, Rows.nil _ _ _⟩
theorem PrsR.ext {w w' : World} {v : Value} {l : List (Int × Int)} (h : PrsR w v l) (hx : Ext w w') : PrsR w' v l := by
  obtain ⟨A, k, e1, e2⟩ := h
  exact ⟨A, k, e1, Rows.ext e2 hx⟩
def twinsV (f : Fg) (k m n : Int) : List (Int × Int) := if placedE f k m n = 0 then twinsM (farM f) f (placedL f k m n) n else []
theorem placesL_take (f : Fg) (i : Nat) (h : i < f.pl.toNat) : (placesL f).take i ++ [(i : Int)] = (placesL f).take (i + 1) := by
  unfold placesL natI
  rw [← List.map_take, ← List.map_take, List.take_range, List.take_range, Nat.min_eq_left (by omega), Nat.min_eq_left (by omega), List.range_succ, List.map_append]
  rfl
theorem placesL_len (f : Fg) : (placesL f).length = f.pl.toNat := by simp [placesL, natI]
theorem placesL_lt {f : Fg} (h8 : f.pl ≤ 8) : ∀ x ∈ placesL f, 0 ≤ x ∧ x < 8 := fun x hx => by
  unfold placesL natI at hx
  obtain ⟨q, hq, rfl⟩ := List.mem_map.1 hx
  have := List.mem_range.1 hq
  omega
set_option maxRecDepth 100000 in
set_option maxHeartbeats 4000000 in
theorem twins_any (v : Value) (f : Fg) (k m n : Int) (w : World) (hf : FgR w v f) (hs : f.sized) :
    Calls Tryz.prog 27 #[v, .int .i64 k, .int .i64 m, .int .i64 n] w fun e w' => ∃ r, e = .returned (.tuple #[r, .int .i64 (placedE f k m n)]) ∧ Ext w w' ∧ PrsR w' r (twinsV f k m n) := by
  obtain ⟨s, rfl, hr⟩ := hf.rows
  obtain ⟨T, hT⟩ : ∃ T, placedE f k m n = T := ⟨_, rfl⟩
  have HT := hid hT
  clear hT
  have HS := hid hs
  have HX0 : Hid (Ext w (w.alloc (.cells #[.int .i64 f.pl, .int .i64 f.mi, .slice s.a1 f.tr.length s.c1, .slice s.a2 f.bl.length s.c2, .slice s.a3 f.ct.length s.c3] 29))) := Ext.alloc (Ext.refl w) _
  show Calls _ _ #[.agg #[.int .i64 f.pl, .int .i64 f.mi, .slice s.a1 f.tr.length s.c1, .slice s.a2 f.bl.length s.c2, .slice s.a3 f.ct.length s.c3], _, _, _] _ _
  go_enter Tryz.func27, Tryz.ntmps27
  go_wp2_with fail
  refine (placed_any (.agg #[.int .i64 f.pl, .int .i64 f.mi, .slice s.a1 f.tr.length s.c1, .slice s.a2 f.bl.length s.c2, .slice s.a3 f.ct.length s.c3]) f k m n _ (FRows.fg (hr.ext HX0.out)) HS.out).mono ?_
  rintro e w1 ⟨r, pv, rfl, hb1, hpv, hr1, hr2⟩
  have hx1 := HX0.out.trans hb1
  have kc0 := hb1.cell (p := ⟨w.heap.size, 0, none⟩) (u := .int .i64 f.pl) (by simp [go_sem])
  clear HX0 hb1
  rw [HT.out]
  obtain ⟨A3, k3, e3, hI3, hk3⟩ := hpv
  subst e3
  by_cases h0 : T = 0
  case neg =>
    have HN2 : Hid (placedE f k m n ≠ 0) := by unfold Hid; rw [HT.out]; exact h0
    go_wp2
    go_ret2
    exact ⟨.slice none 0 0, by rw [HT.out]; rfl, hx1, by unfold twinsV; rw [if_neg HN2.out]; exact PrsR.nil _⟩
  subst h0
  obtain ⟨D, s2, hrD, hdk, hrk⟩ := hr1 HT.out
  subst hrD
  obtain ⟨hce, hmi, hnB, hlo⟩ := placedE_ok HT.out
  have HOK : Hid (FogOK f) := checkF_ok (cartE_ok hce).1
  have hpl := HOK.out.pl
  have HTV : Hid (twinsV f k m n = twinsM (farM f) f (placedL f k m n) n) := by unfold Hid twinsV; rw [if_pos HT.out]
  have hPL : (∀ x ∈ placedL f k m n, 0 ≤ x ∧ x < 8) ∧ (placedL f k m n).length ≤ 8 := by
    unfold placedL; rw [if_pos HT.out]; exact canN_lt hpl.2 _
  have HPL := hid hPL
  obtain ⟨PL, hPLe⟩ : ∃ PL, placedL f k m n = PL := ⟨_, rfl⟩
  rw [hPLe] at HPL HTV hI3 hk3
  obtain ⟨P, hP⟩ : ∃ P : Nat, f.pl = P := ⟨f.pl.toNat, by omega⟩
  have HP : Hid (f.pl = P ∧ f.pl.toNat = P) := ⟨hP, by omega⟩
  rw [hP] at kc0 hpl
  have HDK := hid hdk
  try rw [hPLe]
  clear hce hmi hnB hlo hr1 hr2 hPL hP hdk hPLe
  go_wp2
  go_loopw [30, 13] (fun i30 i13 wr => ∃ (i : Nat) (A : Option Addr) (kk : Nat), i ≤ P ∧ i30 = .int .i64 (i : Int) ∧ i13 = .slice A i kk ∧ wr.ownsRow w1.heap.size 3 1 (.slice A i kk) i (((placesL f).take i).map (.int .i64)) ∧ Ext w1 wr) (fun i _ _ => P - (intOf i).toNat)
  case atStart => exact ⟨0, none, 0, Nat.zero_le _, rfl, rfl, own_nil _ _ _ _, Ext.refl _⟩
  case round =>
    obtain ⟨i, A, kk, hi, rfl, rfl, hown, hxr⟩ := hrel
    have HOW := hid hown
    by_cases hlt : i < P
    · have hlt' : (i : Int) < (P : Int) := by omega
      obtain ⟨W5, hW5⟩ : ∃ W5, wr.alloc (.cells #[.int .i64 (i : Int)] 3) = W5 := ⟨_, rfl⟩
      have hx5 : Ext wr W5 := by rw [← hW5]; exact Ext.alloc (Ext.refl _) _
      have hrd5 : Rd W5 (some ⟨wr.heap.size, 0, none⟩) [.int .i64 (i : Int)] := .inr ⟨wr.heap.size, 0, rfl, fun j u hu => by
        match j, hu with
        | 0, hu => cases hu; rw [← hW5]; simp [go_sem]⟩
      have OW5 := hid (own_below HOW.out hx5)
      have hxw5 := hxr.trans hx5
      have hsz5 := hxw5.size
      have hnb : (i + 1) * 8 ≤ 140737488355328 := by omega
      have HRD := hid hrd5
      have HXW := hid hxw5
      have HTK := hid (placesL_take f i (by rw [HP.out.2]; exact hlt))
      clear hown hrd5 hxw5 HOW
      go_wp2_with (at_builtin; (try rw [hW5]); refine wpList_append_rd2 _ rfl _ _ 37 rfl elem_int w1.heap.size _ i (((placesL f).take i).map (.int .i64)) rfl OW5.out (some ⟨wr.heap.size, 0, none⟩) 1 1 [.int .i64 (i : Int)] rfl rfl HRD.out (by simp [Value.oneCell']) hnb hsz5 ?_)
      intro A6 k6 W6 own6 hbel6 hgr6 hloc6
      rw [show List.take i ((placesL f).map (Value.int .i64)) ++ [.int .i64 (i : Int)] = ((placesL f).take (i + 1)).map (.int .i64) by rw [← HTK.out, List.map_append, List.map_take]; rfl] at own6
      have hxw6 : Ext w1 W6 := Ext.grown HXW.out hgr6 (fun k e => (OW5.out.lt k e).1)
      have HO6 := hid own6
      clear own6 hloc6 hgr6 hbel6
      go_wp2
      go_roundw
      case rel => exact ⟨i + 1, A6, k6, by omega, by go_num, rfl, HO6.out, hxw6⟩
      case measure => simp [intOf]; omega
    · have hlt' : ¬ (i : Int) < (P : Int) := by omega
      have hie : i = P := by omega
      have hpt : (placesL f).take i = placesL f := List.take_of_length_le (by rw [placesL_len, HP.out.2, hie]; exact Nat.le_refl _)
      have hil : i = (placesL f).length := by rw [placesL_len, HP.out.2, hie]
      rw [hpt] at hown
      have hA : Ints wr A (placesL f) := Rd.of_own hown
      obtain ⟨Q, hQ⟩ : ∃ Q, placesL f = Q := ⟨_, rfl⟩
      have HQ8 : Hid (∀ x ∈ Q, 0 ≤ x ∧ x < 8) := by rw [← hQ]; exact placesL_lt (by have := HOK.out.pl; omega)
      have hQl : Q.length ≤ 8 := by rw [← hQ, placesL_len, HP.out.2]; omega
      have HTV2 : Hid (twinsV f k m n = pairsM (farM f) (loudM Q n) PL) := by unfold Hid; rw [HTV.out, ← hQ]; rfl
      rw [hQ] at hA hil
      have hcl := loud_any A kk Q n wr hA (by omega)
      rw [← hil] at hcl
      have HCL := hid hcl
      have HIL := hid hil
      clear hown hA hQ hpt hcl hil HOW hie
      go_wp2_with fail
      refine HCL.out.mono ?_
      rintro e w4 ⟨A4, k4, rfl, hb4, hown4⟩
      have hb14 := hxr.trans hb4
      have hcp := pairs_any D s2 f (farM f) A3 A4 k3 k4 PL (loudM Q n) w4 (HDK.out.ext hb14) (hI3.ext hb14) (Rd.of_own hown4) HPL.out.1 HPL.out.2 hk3 (fun x hx => by
        unfold loudM at hx
        obtain ⟨y, hy, rfl⟩ := List.mem_map.1 hx
        exact HQ8.out y hy) (by rw [loudM_len]; omega)
      rw [loudM_len, ← HIL.out] at hcp
      have HCP := hid hcp
      clear hcp hown4
      go_wp2_with fail
      refine HCP.out.mono ?_
      rintro e w5 ⟨A5, k5, rfl, hb5, hown5⟩
      go_wp2
      go_ret2
      exact ⟨_, by rw [HT.out]; rfl, hx1.trans (hb14.trans hb5), by rw [HTV2.out]; exact ⟨A5, k5, rfl, Rd.of_own hown5⟩⟩

/-! Decide -/
set_option maxRecDepth 100000 in
set_option maxHeartbeats 2000000 in
theorem decide1_fn (wi : Nat) (w0 : World) (O Bd Bp Bn D : Nat) (s : Ads) (f : Fg) (g : Mat) (A3 : Option Addr) (k3 : Nat) (pl : List Int) (n : Int) (hwi : wi ≤ 8) (hd : Dk w0 D s f g) (hO : w0.heap.size ≤ O)
    (hBd : w0.cell? ⟨Bd, 0, none⟩ = some (.pointer (some ⟨D, 0, none⟩))) (hBp : w0.cell? ⟨Bp, 0, none⟩ = some (.slice A3 pl.length k3)) (hBn : w0.cell? ⟨Bn, 0, none⟩ = some (.int .i64 n)) (hI : Ints w0 A3 pl) (hpl : ∀ x ∈ pl, 0 ≤ x ∧ x < 8) (hpl8 : pl.length ≤ 8) (hplk : pl.length ≤ k3) :
    IsFn Tryz.prog (.func (.func 97) #[] #[.pointer (some ⟨O, 0, none⟩), .pointer (some ⟨Bd, 0, none⟩), .pointer (some ⟨Bp, 0, none⟩), .pointer (some ⟨Bn, 0, none⟩)]) w0 O 1000 wi (fun l => (pairsM g (loudM l n) pl).isEmpty) := by
  refine ⟨_, _, _, rfl, enters_of Tryz.func97 (by kernel_rfl) rfl, fun l A ca W hl hel hbW hA hnA ⟨ov, hov⟩ => ?_⟩
  have hxW : Ext w0 W := BelS.ext (hbW.belS (S := fun k => k = O) rfl) (fun k hk e => by omega)
  have o0 := hov.cell
  have o1 := hov.frozen
  have hset := hov.set (.slice A l.length ca)
  have hbs := (Bel.refl O W).setCell 0 (.slice A l.length ca)
  have hAs := hA.bel hbs hnA
  obtain ⟨W1, hW1⟩ : ∃ W1, W.setCell ⟨O, 0, none⟩ (.slice A l.length ca) = W1 := ⟨_, rfl⟩
  have hxs : Ext w0 W1 := by rw [← hW1]; exact hxW.then_bel hO hbs
  have hdW := hd.ext hxs
  have hIp := hI.ext hxs
  have FX : Hid (∀ w', Ext W1 w' → w'.cell? ⟨Bd, 0, none⟩ = some (.pointer (some ⟨D, 0, none⟩)) ∧ w'.cell? ⟨Bp, 0, none⟩ = some (.slice A3 pl.length k3) ∧ w'.cell? ⟨Bn, 0, none⟩ = some (.int .i64 n)) := fun w' h => ⟨(hxs.trans h).cell hBd, (hxs.trans h).cell hBp, (hxs.trans h).cell hBn⟩
  rw [hW1] at hset hbs hAs
  obtain ⟨F, hF⟩ : ∃ F, (pairsM g (loudM l n) pl).isEmpty = F := ⟨_, rfl⟩
  have hFl : (((pairsM g (loudM l n) pl).length : Int) == 0) = F := by
    rw [← hF]
    cases pairsM g (loudM l n) pl with
    | nil => simp
    | cons x xs => simp; omega
  have HQ := hid hFl
  have HQ2 : Hid (decide (((pairsM g (loudM l n) pl).length : Int) = 0) = F) := by rw [← hFl]; rfl
  simp only [hF]
  clear hF hFl
  show Calls _ _ #[_, _, _, _, _] _ _
  go_enter Tryz.func97, Tryz.ntmps97
  go_wp2
  try rw [hW1]
  clear hW1
  refine wp_region_shut Ext (fun w' => Ext W1 w') (fun
    | 4 => some (fun v wz => ∃ A9 k9, v = .slice A9 l.length k9 ∧ Prs wz A9 (loudM l n))
    | 5 => some (fun v _ => ∃ A7 k7, v = .slice A7 (pairsM g (loudM l n) pl).length k7)
    | _ => none) (by kernel_rfl) (by kernel_rfl) (fun _ _ h k => h.trans k) ?hT (Ext.drew (Ext.refl W1)) ?_
  case hT =>
    intro i R hR
    match i, hR with
    | 4, hR => cases hR; exact fun _ _ _ ⟨A9, k9, e1, e2⟩ k => ⟨A9, k9, e1, Rows.ext e2 k⟩
    | 5, hR => cases hR; exact fun _ _ _ h _ => h
  refine wM_val ?ua0 rfl rfl Ext.refl (fun w' hD => ?ha0) (fun pha0 => ?na0)
  case ha0 =>
    obtain ⟨d0, d1, d2⟩ := FX.out w' hD.1
    go_simp; rfl
  simp only [Act.put, List.setIfInBounds_toArray, List.set_cons_succ, List.set_cons_zero, Nat.reduceAdd]
  refine wM_val ?ua1 rfl rfl Ext.refl (fun w' hD => ?ha1) (fun pha1 => ?na1)
  case ha1 =>
    obtain ⟨d0, d1, d2⟩ := FX.out w' hD.1
    go_simp; rfl
  simp only [Act.put, List.setIfInBounds_toArray, List.set_cons_succ, List.set_cons_zero, Nat.reduceAdd]
  refine wM_val ?ua2 rfl rfl Ext.refl (fun w' hD => ?ha2) (fun pha2 => ?na2)
  case ha2 =>
    obtain ⟨d0, d1, d2⟩ := FX.out w' hD.1
    go_simp; rfl
  simp only [Act.put, List.setIfInBounds_toArray, List.set_cons_succ, List.set_cons_zero, Nat.reduceAdd]
  refine wM_val ?ua3 rfl rfl Ext.refl (fun w' hD => ?ha3) (fun pha3 => ?na3)
  case ha3 =>
    obtain ⟨d0, d1, d2⟩ := FX.out w' hD.1
    go_simp; rfl
  simp only [Act.put, List.setIfInBounds_toArray, List.set_cons_succ, List.set_cons_zero, Nat.reduceAdd]
  refine wM_op _ rfl rfl (opens_call ?fa4 ?ga4 (fun w' hD => ?ha4) (fun w' hD => ?ca4)) (fun v4 hv4 => ?na4)
  case ha4 => go_simp; constructor <;> rfl
  case ca4 =>
    refine (loud_any A ca l n w' (hAs.ext hD.1) (by omega)).mono ?_
    rintro e w2 ⟨A9, k9, rfl, hb, ho⟩
    exact ⟨_, rfl, hb, A9, k9, rfl, Rd.of_own ho⟩
  obtain ⟨_, -, -, A9, k9, rfl, -⟩ := hv4
  simp only [Act.put, List.setIfInBounds_toArray, List.set_cons_succ, List.set_cons_zero, Nat.reduceAdd]
  refine wM_op _ rfl rfl (opens_call ?fa5 ?ga5 (fun w' hD => ?ha5) (fun w' hD => ?ca5)) (fun v5 hv5 => ?na5)
  case ha5 => go_simp; constructor <;> rfl
  case ca5 =>
    obtain ⟨_, A8, k8, e8, h8⟩ := hD.get 4 (by first | kernel_rfl | simp [Region.binds])
    cases e8
    have hcon := pairs_any D s f g A3 A9 k3 k9 pl (loudM l n) w' (hdW.ext hD.1) (hIp.ext hD.1) h8 hpl hpl8 hplk (fun x hx => by unfold loudM at hx; obtain ⟨y, hy, rfl⟩ := List.mem_map.1 hx; have := hel y hy; exact ⟨by show 0 ≤ y; omega, by show y < 8; omega⟩) (by rw [loudM_len]; omega)
    rw [loudM_len] at hcon
    refine hcon.mono ?_
    rintro e w2 ⟨A7, k7, rfl, hb, -⟩
    exact ⟨_, rfl, hb, A7, k7, rfl⟩
  obtain ⟨_, -, -, A7, k7, rfl⟩ := hv5
  simp only [Act.put, List.setIfInBounds_toArray, List.set_cons_succ, List.set_cons_zero, Nat.reduceAdd]
  refine wM_val ?ua6 rfl rfl Ext.refl (fun w' hD => ?ha6) (fun pha6 => ?na6)
  case ha6 =>
    obtain ⟨d0, d1, d2⟩ := FX.out w' hD.1
    go_simp; rfl
  simp only [Act.put, List.setIfInBounds_toArray, List.set_cons_succ, List.set_cons_zero, Nat.reduceAdd]
  refine wM_val ?ua7 rfl rfl Ext.refl (fun w' hD => ?ha7) (fun pha7 => ?na7)
  case ha7 =>
    obtain ⟨d0, d1, d2⟩ := FX.out w' hD.1
    go_simp; rfl
  simp only [Act.put, List.setIfInBounds_toArray, List.set_cons_succ, List.set_cons_zero, Nat.reduceAdd]
  first | rw [HQ.out] | rw [HQ2.out] | skip
  refine wM_val ?ua8 rfl rfl Ext.refl (fun w' hD => ?ha8) (fun pha8 => ?na8)
  case ha8 =>
    obtain ⟨d0, d1, d2⟩ := FX.out w' hD.1
    go_simp; rfl
  simp only [Act.put, List.setIfInBounds_toArray, List.set_cons_succ, List.set_cons_zero, Nat.reduceAdd]
  refine wM_nil ?_
  intro w9 hw9 hF9
  go_wp2
  go_ret
  exact ⟨rfl, hbs.trans (hw9.bel (D := O)), hset.ext hw9⟩
def decideE (f : Fg) (k m n : Int) : Int := if placedE f k m n ≠ 0 then placedE f k m n else if (decideM (farM f) f (placedL f k m n) n).isSome then 0 else 6
def decideL (f : Fg) (k m n : Int) : List Int := if decideE f k m n = 0 then (decideM (farM f) f (placedL f k m n) n).getD [] else []
def DecidePost (w : World) (f : Fg) (k m n : Int) (e : Ending) (w' : World) : Prop := ∃ r, e = .returned (.tuple #[r, .int .i64 (decideE f k m n)]) ∧ Ext w w' ∧ (∃ A c, r = .slice A (decideL f k m n).length c ∧ Ints w' A (decideL f k m n))
set_option maxRecDepth 100000 in
set_option maxHeartbeats 4000000 in
theorem decidex_any (v : Value) (f : Fg) (k m n : Int) (w : World) (hf : FgR w v f) (hs : f.sized) :
    Calls Tryz.prog 26 #[v, .int .i64 k, .int .i64 m, .int .i64 n] w (DecidePost w f k m n) := by
  obtain ⟨s, rfl, hr⟩ := hf.rows
  obtain ⟨T, hT⟩ : ∃ T, placedE f k m n = T := ⟨_, rfl⟩
  have HT := hid hT
  clear hT
  have HS := hid hs
  have HX0 : Hid (Ext w ((w.alloc (.cells #[.int .i64 f.pl, .int .i64 f.mi, .slice s.a1 f.tr.length s.c1, .slice s.a2 f.bl.length s.c2, .slice s.a3 f.ct.length s.c3] 29)).alloc (.cells #[.int .i64 n] 3))) := ((Ext.refl w).alloc _).alloc _
  show Calls _ _ #[.agg #[.int .i64 f.pl, .int .i64 f.mi, .slice s.a1 f.tr.length s.c1, .slice s.a2 f.bl.length s.c2, .slice s.a3 f.ct.length s.c3], _, _, _] _ _
  go_enter Tryz.func26, Tryz.ntmps26
  go_wp2
  go_step3
  go_wp2_with fail
  refine (placed_any (.agg #[.int .i64 f.pl, .int .i64 f.mi, .slice s.a1 f.tr.length s.c1, .slice s.a2 f.bl.length s.c2, .slice s.a3 f.ct.length s.c3]) f k m n _ (FRows.fg (hr.ext HX0.out)) HS.out).mono ?_
  rintro e w1 ⟨r, pv, rfl, hb1, hpv, hr1, hr2⟩
  have hx1 := HX0.out.trans hb1
  have kc0 := hb1.cell (p := ⟨w.heap.size, 0, none⟩) (u := .int .i64 f.pl) (by simp [go_sem])
  have kn := hb1.cell (p := ⟨w.heap.size + 1, 0, none⟩) (u := .int .i64 n) (by simp [go_sem])
  clear HX0 hb1
  rw [HT.out]
  obtain ⟨A3, k3, e3, hI3, hk3⟩ := hpv
  subst e3
  by_cases h0 : T = 0
  case neg =>
    have HN : Hid (decideE f k m n = T) := by unfold Hid decideE; rw [if_pos (by rw [HT.out]; exact h0), HT.out]
    have HN2 : Hid (decideE f k m n ≠ 0) := by unfold Hid; rw [HN.out]; exact h0
    have hr3 := hr2 (by rw [HT.out]; exact h0)
    subst hr3
    have hxa : Ext w1 ((w1.alloc (.cells #[.pointer none] 101)).alloc (.cells #[.slice A3 (placedL f k m n).length k3] 37)) := ((Ext.refl _).alloc _).alloc _
    go_wp2
    try rw [Exit.noGoto_ret]
    go_ret2
    exact ⟨.slice none 0 0, by rw [HN.out]; rfl, hx1.trans hxa, by unfold decideL; rw [if_neg HN2.out]; exact ⟨none, 0, rfl, Ints.nil _ _⟩⟩
  subst h0
  obtain ⟨D, s2, hrD, hdk, hrk⟩ := hr1 HT.out
  subst hrD
  obtain ⟨hce, hmi, hnB, hlo⟩ := placedE_ok HT.out
  have HOK : Hid (FogOK f) := checkF_ok (cartE_ok hce).1
  have hpl := HOK.out.pl
  have hPL : (∀ x ∈ placedL f k m n, 0 ≤ x ∧ x < 8) ∧ (placedL f k m n).length ≤ 8 := by
    unfold placedL; rw [if_pos HT.out]; exact canN_lt hpl.2 _
  have HPL := hid hPL
  obtain ⟨PL, hPLe⟩ : ∃ PL, placedL f k m n = PL := ⟨_, rfl⟩
  have HPLe := hid hPLe
  rw [hPLe] at HPL hI3 hk3
  obtain ⟨P, hP⟩ : ∃ P : Nat, f.pl = P := ⟨f.pl.toNat, by omega⟩
  have HP : Hid (f.pl = P ∧ f.pl.toNat = P) := ⟨hP, by omega⟩
  rw [hP] at kc0 hpl
  obtain ⟨W2, hW2⟩ : ∃ W2, (w1.alloc (.cells #[.pointer (some ⟨D, 0, none⟩)] 101)).alloc (.cells #[.slice A3 PL.length k3] 37) = W2 := ⟨_, rfl⟩
  have hx12 : Ext w1 W2 := by rw [← hW2]; exact ((Ext.refl _).alloc _).alloc _
  have bd : W2.cell? ⟨w1.heap.size, 0, none⟩ = some (.pointer (some ⟨D, 0, none⟩)) := by rw [← hW2]; simp [go_sem]
  have bp : W2.cell? ⟨w1.heap.size + 1, 0, none⟩ = some (.slice A3 PL.length k3) := by rw [← hW2]; simp [go_sem]
  have bn := hx12.cell kn
  have hz2 : W2.heap.size = w1.heap.size + 1 + 1 := by rw [← hW2]; simp
  obtain ⟨W3, hW3⟩ : ∃ W3, ((w1.alloc (.cells #[.pointer (some ⟨D, 0, none⟩)] 101)).alloc (.cells #[.slice A3 PL.length k3] 37)).alloc (.cells #[.slice none 0 0] 37) = W3 := ⟨_, rfl⟩
  have hx23 : Ext W2 W3 := by rw [← hW3, ← hW2]; exact Ext.alloc (Ext.refl _) _
  have ho3 : OBox W3 (w1.heap.size + 1 + 1) (.slice none 0 0) := by
    rw [← hW3, ← hz2, ← hW2]; exact World.alloc_heap_new _ _
  have kc3 := hx23.cell (hx12.cell kc0)
  have HZ := hid hz2
  have hwz : w.heap.size < w1.heap.size := by have := World.block_lt_of_cell? w1 _ kc0; simpa using this
  have l0 := fun o1 o2 o3 => ((((Ext.refl w1).alloc o1).alloc o2).alloc o3).cell kc0
  have HD2 := hid (hdk.ext hx12)
  have HI2 := hid (hI3.ext hx12)
  try rw [hPLe]
  clear hce hmi hnB hlo hr1 hr2 hPL hP hdk hPLe hW2 hz2
  obtain ⟨R, hR⟩ : ∃ R, decideM (farM f) f PL n = R := ⟨_, rfl⟩
  have HR : Hid (tryL (fun many => moreL (fun l => (pairsM (farM f) (loudM l n) PL).isEmpty) P many [] 0) 0 (P + 1 - 0) = R) := by
    unfold Hid; rw [← hR]; unfold decideM fewL; rw [HP.out.2]; rfl
  have HRR := hid hR
  clear hR
  go_wp2
  go_step3
  go_wp2
  try rw [hW3]
  clear hW3 l0
  go_loopw [32, 14] (fun i32 i14 wr => ∃ mm : Nat, mm ≤ P + 1 ∧ i32 = .int .i64 (mm : Int) ∧ i14 = .bool false ∧ Hid (tryL (fun many => moreL (fun l => (pairsM (farM f) (loudM l n) PL).isEmpty) P many [] 0) mm (P + 1 - mm) = R) ∧ Bel (w1.heap.size + 1 + 1) W3 wr ∧ ∃ ov, OBox wr (w1.heap.size + 1 + 1) ov) (fun i _ _ => P + 1 - (intOf i).toNat)
  case atStart => exact ⟨0, Nat.zero_le _, rfl, rfl, HR, Bel.refl _ _, _, ho3⟩
  case round =>
    clear HR
    obtain ⟨mm, hmm, rfl, rfl, HR, hbl, hov⟩ := hrel
    have hb2r := (hx23.bel (D := w1.heap.size + 1 + 1)).trans hbl
    have hx2r : Ext W2 wr := BelS.ext (hb2r.belS (S := fun k => k = w1.heap.size + 1 + 1) rfl) (fun k hk e => by have := HZ.out; omega)
    have kcr := hbl.cell kc3 (by simp; omega)
    by_cases hlt : mm < P + 1
    · have hlt' : (mm : Int) < (P : Int) + 1 := by omega
      have hcall := lists_any (fun l => (pairsM (farM f) (loudM l n) PL).isEmpty) P mm (w1.heap.size + 1 + 1) 1000 _ W2 wr (by omega) (by omega) (by omega)
        (decide1_fn P W2 (w1.heap.size + 1 + 1) w1.heap.size (w1.heap.size + 1) (w.heap.size + 1) D s2 f (farM f) A3 k3 PL n (by omega) HD2.out (by have := HZ.out; omega) bd bp bn HI2.out HPL.out.1 HPL.out.2 hk3) hb2r hov
      have HC := hid hcall
      clear hcall
      have HRN : Hid ((match moreL (fun l => (pairsM (farM f) (loudM l n) PL).isEmpty) P mm [] 0 with | some r => some r | none => tryL (fun many => moreL (fun l => (pairsM (farM f) (loudM l n) PL).isEmpty) P many [] 0) (mm + 1) (P + 1 - (mm + 1))) = R) := by
        unfold Hid
        rw [← HR.out, show P + 1 - mm = (P + 1 - (mm + 1)) + 1 by omega]
        rfl
      clear HR
      go_wp2_with fail
      refine HC.out.mono ?_
      rintro e W4 ⟨rfl, hb4, ov4, ho4, hr4⟩
      have hb5 := hbl.trans hb4
      have hx4 : Ext w W4 := (hx1.trans hx12).trans (BelS.ext ((hb2r.trans hb4).belS (S := fun k => k = w1.heap.size + 1 + 1) rfl) (fun k hk e => by have := HZ.out; omega))
      have oc4 := ho4.cell
      cases hq : moreL (fun l => (pairsM (farM f) (loudM l n) PL).isEmpty) P mm [] 0 with
      | some r =>
        have HQ : Hid (some r = R) := by unfold Hid; rw [← HRN.out, hq]
        obtain ⟨A5, c5, rfl, hI5, _⟩ := hr4 r hq
        have HN : Hid (decideE f k m n = 0) := by unfold Hid decideE; rw [if_neg (fun h => h HT.out), HPLe.out, HRR.out, ← HQ.out]; rfl
        have HL : Hid (decideL f k m n = r) := by unfold Hid decideL; rw [if_pos HN.out, HPLe.out, HRR.out, ← HQ.out]; rfl
        clear hq HRN hr4
        go_wp2
        try rw [Exit.noGoto_ret]
        go_ret2
        exact ⟨.slice A5 r.length c5, by rw [HN.out]; rfl, hx4, by rw [HL.out]; exact ⟨A5, c5, rfl, hI5⟩⟩
      | none =>
        have HQ : Hid (tryL (fun many => moreL (fun l => (pairsM (farM f) (loudM l n) PL).isEmpty) P many [] 0) (mm + 1) (P + 1 - (mm + 1)) = R) := by unfold Hid; rw [← HRN.out, hq]
        clear hq HRN hr4
        go_wp2
        go_roundw
        case rel => exact ⟨mm + 1, by omega, by go_num, rfl, HQ, hb5, ov4, ho4⟩
        case measure => simp [intOf]; omega
    · have hlt' : ¬ (mm : Int) < (P : Int) + 1 := by omega
      have HQ : Hid (none = R) := by unfold Hid; rw [← HR.out, show P + 1 - mm = 0 by omega]; rfl
      have HN : Hid (decideE f k m n = 6) := by unfold Hid decideE; rw [if_neg (fun h => h HT.out), HPLe.out, HRR.out, ← HQ.out]; rfl
      have HN2 : Hid (decideE f k m n ≠ 0) := by unfold Hid; rw [HN.out]; decide
      clear HR
      go_wp2
      try rw [Exit.noGoto_ret]
      go_ret2
      exact ⟨.slice none 0 0, by rw [HN.out]; rfl, (hx1.trans hx12).trans hx2r, by unfold decideL; rw [if_neg HN2.out]; exact ⟨none, 0, rfl, Ints.nil _ _⟩⟩
end Go.Proofs.YtlonpgbapiemcaaGreat
