/- The walk of BoilTurned. Printed by my gen_bturw.py. -/
import Derived.Test.YtjnobdcbbboeeaaBOwnL
import Derived.Test.YtjnobdcbbboeeaaBTrs
import Derived.Test.YtjnobdcbbboeeaaHa
import Derived.Test.YtjnobdcbbboeeaaH3
import Derived.OwnWalk
import Derived.Deep.DeepCutAuto
import Derived.Deep.CutBlock
import Derived.Deep.QuietTactic
import Derived.Deep.RegionHeld3
import Derived.BigQuiet
namespace Go.Proofs.Ytjnobdcbbboeeaa
open Go Go.RowKit Go.Shelf
set_option linter.unusedVariables false
set_option linter.unusedSimpArgs false

/-- The first i weighings turned. -/
def turnK (h : Hs) (i : Nat) : List Wg := (h.ws.take i).map (turnW h.mo) ++ h.ws.drop i
theorem turnK_len (h : Hs) (i : Nat) : (turnK h i).length = h.ws.length := by unfold turnK; simp; omega
theorem turnK_zero (h : Hs) : turnK h 0 = h.ws := by unfold turnK; simp
theorem turnK_all (h : Hs) {i : Nat} (hi : h.ws.length ≤ i) : turnK h i = (turnH h).ws := by unfold turnK turnH; rw [List.take_of_length_le hi, List.drop_eq_nil_of_le hi, List.append_nil]
theorem set_mid {α : Type} (l m : List α) (x y : α) {i : Nat} (hi : l.length = i) : (l ++ x :: m).set i y = l ++ y :: m := by
  subst hi; simp
theorem turnK_next {h : Hs} {i : Nat} {x : Wg} (hx : h.ws[i]? = some x) : (turnK h i)[i]? = some x ∧ turnK h (i + 1) = (turnK h i).set i (turnW h.mo x) := by
  have hi := (List.getElem?_eq_some_iff.1 hx).1
  have hl : ((h.ws.take i).map (turnW h.mo)).length = i := by simp; omega
  have hd : h.ws.drop i = x :: h.ws.drop (i + 1) := by rw [List.drop_eq_getElem_cons hi, (List.getElem?_eq_some_iff.1 hx).2]
  constructor
  · unfold turnK
    rw [List.getElem?_append_right (by omega), hl, hd]; simp
  · unfold turnK
    rw [hd, set_mid _ _ _ _ hl, List.take_add_one, hx]
    simp
theorem wg_rows_mo (l : List Wg) : ∀ (i : Nat) (x : Wg) (m : Int), l[i]? = some x → (layWg.rows l).set (i * 5) (.int .i64 m) = layWg.rows (l.set i { x with mo := m }) := by
  induction l with
  | nil => intro i x m h; simp at h
  | cons y l ih =>
    intro i x m h
    cases i with
    | zero =>
      simp at h; subst h
      simp [Lay.rows, layWg]
    | succ i =>
      have := ih i x m (by simpa using h)
      simp only [Lay.rows, List.flatMap_cons, List.set_cons_succ] at this ⊢
      rw [← this]
      have e : (i + 1) * 5 = i * 5 + 5 := by omega
      rw [e]
      simp [layWg]
set_option maxRecDepth 100000 in
set_option maxHeartbeats 16000000 in
theorem boilturned_any (A : Option Addr) (l : List Int) (cap : Nat) (a : Int) (w : World) (hA : Bytes w A l) (hl : ∀ x ∈ l, 0 ≤ x ∧ x ≤ 255) (hlt : ∀ x, A = some x → l = [] ∨ x.block < w.heap.size) (hn : l.length ≤ 9223372036854775807) (ha : 0 ≤ a ∧ a ≤ 255) :
    Calls Try.prog 6 #[.slice A l.length cap, .int .u8 a] w fun e w' => e = .returned (.bool true) ∧ Below w.heap.size w w' := by
  obtain ⟨a, rfl⟩ : ∃ n : Nat, a = n := ⟨a.toNat, by omega⟩
  go_enter Try.func6, Try.ntmps6
  go_wp2_with fail
  refine (pile_any A l cap w hA hl hlt hn).mono ?_
  rintro e w1 ⟨D, rfl, hD, x1, hh1⟩
  go_wp2_with fail
  refine (made_any D 9 10 4 w1 hh1 (by decide) (by decide) (by decide) (by decide)).mono ?_
  rintro e w2 ⟨h, rl, Ah, ch, A2, c2, rfl, HM, hoh, hor, hb2, -⟩
  have x2 : Ext w w2 := Bel.extw x1 hb2 hD
  have k := HM.ok
  have HMD := hid HM
  have hr2 : HsR w2 (hval h Ah ch) h := hsr_own hoh
  have hOR := hid hor
  clear hoh hor hb2 hh1 x1 HM
  unfold hval
  go_upto_region 2 with fail
  obtain ⟨P2, hP2⟩ : ∃ P2, w2.alloc (.cells #[.int .i64 h.mo, .int .i64 h.pk, .slice Ah h.ws.length ch] 25) = P2 := ⟨_, rfl⟩
  have xp : Ext w2 P2 := by rw [← hP2]; exact Ext.alloc (Ext.refl _) _
  have bp : P2.heap[w2.heap.size]? = some (.cells #[.int .i64 h.mo, .int .i64 h.pk, .slice Ah h.ws.length ch] 25 (0, 0)) := by rw [← hP2]; exact heap_alloc_new _ _
  try rw [hP2]
  clear hP2
  have hx2 : Ext w P2 := x2.trans xp
  have FH : Hid (∀ w', Ext P2 w' → w'.cell? ⟨w2.heap.size, 0, none⟩ = some (.int .i64 h.mo) ∧ w'.cell? ⟨w2.heap.size, 1, none⟩ = some (.int .i64 h.pk) ∧ w'.cell? ⟨w2.heap.size, 2, none⟩ = some (.slice Ah h.ws.length ch)) := fun w' hx => by
    obtain ⟨q0, q1, q2, -⟩ := house_cells bp
    exact ⟨hx.cell q0, hx.cell q1, hx.cell q2⟩
  have HR : Hid (∀ w', Ext P2 w' → HsR w' (hval h Ah ch) h) := fun w' hx => (hr2.ext xp).ext hx
  have hs : h.sized := by unfold Hs.sized; have := k.len; omega
  have HK := hid k
  have hmo := k.mo
  have hpk := k.pk
  have hlen := k.len
  have hmz : h.mo ≠ 0 := by omega
  clear k bp hr2 x2 xp
  obtain ⟨N, hN⟩ : ∃ N : Nat, h.ws.length = N := ⟨_, rfl⟩
  have HN := hid hN
  rw [hN] at FH hlen ⊢
  clear hN
  have KO := hid (lown_any _ h P2 (HR.out P2 (Ext.refl _)) (by rw [HN.out]; omega))
  obtain ⟨c0, c1, c2'⟩ := FH.out P2 (Ext.refl _)
  unfold hval at KO
  rw [HN.out] at KO
  go_wp2_with fail
  refine KO.out.mono ?_
  rintro e w3 ⟨g, cu, rfl, ho3, hx3⟩
  clear KO c0 c1 c2'
  go_upto_region 3 with fail
  obtain ⟨W4, hW4⟩ : ∃ W4, w3.alloc (.cells #[.int .i64 h.mo, .int .i64 h.pk, .slice (some ⟨g, 0, none⟩) N cu] 25) = W4 := ⟨_, rfl⟩
  have hx4 : Ext w3 W4 := by rw [← hW4]; exact Ext.alloc (Ext.refl _) _
  obtain ⟨BU, hBU⟩ : ∃ BU, w3.heap.size = BU := ⟨_, rfl⟩
  have b4 : W4.heap[BU]? = some (.cells #[.int .i64 h.mo, .int .i64 h.pk, .slice (some ⟨g, 0, none⟩) N cu] 25 (0, 0)) := by rw [← hW4, ← hBU]; exact heap_alloc_new _ _
  try rw [hW4]
  clear hW4
  try rw [hBU]
  have hz3 := hx3.size
  have ho4 : W4.ownsRow P2.heap.size 55 5 (.slice (some ⟨g, 0, none⟩) N cu) N (layWg.rows h.ws) := own_below ho3 hx4
  have hgl : P2.heap.size ≤ g ∧ g < BU := by have := ho3.lt g rfl; omega
  have hx24 : Ext P2 W4 := hx3.trans hx4
  obtain ⟨c0, c1, c2'⟩ := FH.out W4 hx24
  obtain ⟨u0, u1, u2, fzu⟩ := house_cells b4
  obtain ⟨W5, hW5⟩ : ∃ W5, W4.setCell ⟨BU, 1, none⟩ (.int .i64 (h.mo - 1 - h.pk)) = W5 := ⟨_, rfl⟩
  have hb5 : Bel BU W4 W5 := by rw [← hW5]; exact (Bel.refl _ _).setCell 1 _
  have k5 : W5.heap[BU]? = some (.cells #[.int .i64 h.mo, .int .i64 (h.mo - 1 - h.pk), .slice (some ⟨g, 0, none⟩) N cu] 25 (0, 0)) := by rw [← hW5]; exact heap_setW b4 _
  have ho5 : W5.ownsRow P2.heap.size 55 5 (.slice (some ⟨g, 0, none⟩) N cu) N (layWg.rows (turnK h 0)) := by rw [turnK_zero]; exact hb5.own ho4 (fun j hj e => by have h2 : g = j := Option.some.inj hj; omega)
  have hl5 : BelS (fun k => P2.heap.size ≤ k) P2 W5 := (Ext.belS hx24).trans (hb5.belS (by omega))
  go_upto_region 4 with fail
  try rw [hW5]
  clear hW5 c0 c1 c2' u0 u1 u2 fzu b4 ho4 ho3 hx4 hx3 hx24 hb5 hBU
  have HE0 : Hid (∀ w', BelS (fun k => P2.heap.size ≤ k) P2 w' → Ext P2 w') := fun w' hb => hb.ext (fun k hk hS => by omega)
  obtain ⟨c0, c1, c2'⟩ := FH.out W5 (HE0.out W5 hl5)
  go_wp2_with fail
  clear c0 c1 c2'
  go_loopw [43] (fun i wr => ∃ n : Nat, i = .int .i64 (n : Int) ∧ n ≤ N ∧ wr.heap[BU]? = some (.cells #[.int .i64 h.mo, .int .i64 (h.mo - 1 - h.pk), .slice (some ⟨g, 0, none⟩) N cu] 25 (0, 0)) ∧ wr.ownsRow P2.heap.size 55 5 (.slice (some ⟨g, 0, none⟩) N cu) N (layWg.rows (turnK h n)) ∧ BelS (fun k => P2.heap.size ≤ k) P2 wr) (fun i _ => N - (intOf i).toNat)
  case atStart => exact ⟨0, rfl, Nat.zero_le _, k5, ho5, hl5⟩
  case round =>
    obtain ⟨n, rfl, hn', kb, ho, hbl⟩ := hrel
    have hxr := HE0.out wr hbl
    by_cases hlt1 : n < N
    · have hlt1' : (n : Int) < (N : Int) := by omega
      obtain ⟨x, hx⟩ := get_of_lt h.ws n (by rw [HN.out]; exact hlt1)
      obtain ⟨Ah2, ch2, ehv, hrw, -⟩ := HR.out wr hxr
      obtain rfl : Ah = Ah2 := by unfold hval at ehv; simp at ehv; exact ehv.1
      obtain ⟨b, off, hAA, e0, e1, e2, e3, e4⟩ := Wgs.at_ hrw hx
      subst hAA
      obtain ⟨q1, q2⟩ := turnK_next hx
      have hxm := HK.out.wm x (List.mem_of_getElem? hx)
      obtain ⟨c0, c1, c2'⟩ := FH.out wr hxr
      go_upto_region 7 with fail
      obtain ⟨W6, hW6⟩ : ∃ W6, wr.alloc (.cells #[.int .i64 x.mo, .int .i64 x.sl, .int .i64 x.sh, .int .i64 x.ml, .int .i64 x.mh] 55) = W6 := ⟨_, rfl⟩
      have hx6 : Ext wr W6 := by rw [← hW6]; exact Ext.alloc (Ext.refl _) _
      have b6 : W6.heap[wr.heap.size]? = some (.cells #[.int .i64 x.mo, .int .i64 x.sl, .int .i64 x.sh, .int .i64 x.ml, .int .i64 x.mh] 55 (0, 0)) := by rw [← hW6]; exact heap_alloc_new _ _
      try rw [hW6]
      clear hW6 e0 e1 e2 e3 e4 c0 c1 c2' hrw
      obtain ⟨c0, c1, c2'⟩ := FH.out W6 (hxr.trans hx6)
      have kb6 := (Below.block hx6 _ (Array.getElem?_eq_some_iff.1 kb).1).trans kb
      obtain ⟨u0, u1, u2, fzu⟩ := house_cells kb6
      obtain ⟨g0, -⟩ := wg_cells b6
      have ho6 := own_below ho hx6
      obtain ⟨o7, gr7⟩ := ho6.stored (n * 5) (.int .i64 (h.mo - 1 - x.mo))
      rw [wg_rows_mo _ n x _ q1, show ({ x with mo := h.mo - 1 - x.mo } : Wg) = turnW h.mo x from rfl, ← q2] at o7
      have hS7 : BelS (fun j => j = g) W6 (W6.setCell ⟨g, n * 5, none⟩ (.int .i64 (h.mo - 1 - x.mo))) := BelS.setCell (BelS.refl _ W6) ⟨g, n * 5, none⟩ _ rfl
      have kb7 := hid (hS7.heap kb6 (by omega))
      have hbl7 := hid ((hbl.trans (Ext.belS hx6)).trans (hS7.mono fun k _ hk => by subst hk; exact hgl.1))
      have HO7 := hid o7
      obtain ⟨v, hv⟩ : ∃ v, W6.cell? ⟨g, n * 5, none⟩ = some v := by
        have hc := ho6.cells (g := g) rfl (n * 5) (.int .i64 x.mo) (layWg.rows_get _ n x q1 0 _ rfl)
        rw [Addr.add_lit, Nat.zero_add] at hc
        exact ⟨_, hc⟩
      have fzg : ∀ i, W6.frozen? ⟨g, i, none⟩ = false := fun i => by
        rcases ho6.2 with ⟨h1, -⟩ | ⟨g2, cap, cur, e1, -, h2, -⟩
        · cases h1
        · cases e1; simp [World.frozen?, h2]
      clear q1 q2 o7 gr7 hS7 ho6 ho kb hbl kb6 b6 hx
      go_wp2
      go_roundw
      case rel => exact ⟨n + 1, by go_num, by omega, kb7.out, HO7.out, hbl7.out⟩
      case measure => simp [intOf]; omega
    · have hlt1' : ¬ (n : Int) < (N : Int) := by omega
      rw [turnK_all h (by rw [HN.out]; omega)] at ho
      have hlu : (turnH h).ws.length = N := by rw [← turn_len, HN.out]
      obtain ⟨U, hU⟩ : ∃ U, turnH h = U := ⟨_, rfl⟩
      have eu0 : U.mo = h.mo := by rw [← hU]; rfl
      have eu1 : U.pk = h.mo - 1 - h.pk := by rw [← hU]; rfl
      have hruw : HsR wr (hval U (some ⟨g, 0, none⟩) cu) U := by
        rw [hU] at ho hlu
        rw [← hlu] at ho
        exact hsr_own ho
      have HRU : Hid (∀ w', Ext wr w' → HsR w' (hval U (some ⟨g, 0, none⟩) cu) U) := fun w' hx => hruw.ext hx
      have FU : Hid (∀ w', Ext wr w' → w'.cell? ⟨BU, 0, none⟩ = some (.int .i64 h.mo) ∧ w'.cell? ⟨BU, 1, none⟩ = some (.int .i64 (h.mo - 1 - h.pk)) ∧ w'.cell? ⟨BU, 2, none⟩ = some (.slice (some ⟨g, 0, none⟩) N cu)) := fun w' hx => by
        obtain ⟨q0, q1, q2, -⟩ := house_cells kb
        exact ⟨hx.cell q0, hx.cell q1, hx.cell q2⟩
      have hUs : U.sized := by rw [← hU]; unfold Hs.sized; rw [hlu]; omega
      have hvU : hval U (some ⟨g, 0, none⟩) cu = .agg #[.int .i64 h.mo, .int .i64 (h.mo - 1 - h.pk), .slice (some ⟨g, 0, none⟩) N cu] := by unfold hval; rw [eu0, eu1, ← hU, hlu]
      have HTF := hid (turn_few HK.out)
      have hck : checkH h = 0 := checkH_of HK.out
      have hcu : checkH U = 0 := by rw [← hU]; exact checkH_of (turn_ok HK.out)
      obtain ⟨Lf, hLf⟩ : ∃ L, fewV h = L := ⟨_, rfl⟩
      obtain ⟨Lt, hLt⟩ : ∃ L, truV h = L := ⟨_, rfl⟩
      have hUf : fewV U = Lf := by rw [← hLf, ← hU]; unfold fewV; rw [hck, checkH_of (turn_ok HK.out), if_neg (by simp), if_neg (by simp)]; exact HTF.out.1.symm
      have hUt : truV U = Lt := by rw [← hLt, ← hU]; unfold truV; rw [hck, checkH_of (turn_ok HK.out), if_neg (by simp), if_neg (by simp)]; exact HTF.out.2.symm
      have hl1 : Lf.length ≤ 1000000 := by
        rw [← hLf]; unfold fewV; rw [hck, if_neg (by simp)]
        have := small_room HK.out
        have := (few_is HK.out).2.2.2.2.1
        omega
      have hl2 : Lt.length ≤ 1000000 := by
        rw [← hLt]; unfold truV; rw [hck, if_neg (by simp)]
        have := someW_len (trustB h) h.ws.length
        have := HK.out.len
        unfold trustH
        omega
      have HL1 := hid hl1
      have HL2 := hid hl2
      have KF1 := hid (fewest_any _ h wr (HR.out wr hxr) hs)
      rw [hLf, show fewE h = 0 from hck] at KF1
      have KF2 : Hid (∀ w', Ext wr w' → _) := fun w' hx => fewest_any _ U w' (HRU.out w' hx) hUs
      rw [hUf, show fewE U = 0 from hcu] at KF2
      have KT1 : Hid (∀ w', Ext P2 w' → _) := fun w' hx => trusted_any _ h w' (HR.out w' hx) hs
      rw [hLt, show fewE h = 0 from hck] at KT1
      have KT2 : Hid (∀ w', Ext wr w' → _) := fun w' hx => trusted_any _ U w' (HRU.out w' hx) hUs
      rw [hUt, show fewE U = 0 from hcu] at KT2
      have KB1 : Hid (∀ m w', Ext P2 w' → _) := fun m w' hx => bounds_any _ h m w' (HR.out w' hx) hs
      have KB2 : Hid (∀ m w', Ext wr w' → _) := fun m w' hx => bounds_any _ U m w' (HRU.out w' hx) hUs
      rw [hvU] at KF2 KT2 KB2
      unfold hval at KF1 KT1 KB1
      rw [HN.out] at KF1 KT1 KB1
      unfold rval at KB1 KB2
      have HTB : Hid (∀ m, 0 ≤ m ∧ m < h.mo → bndE U (h.mo - 1 - m) = bndE h m ∧ bndL U (h.mo - 1 - m) = bndL h m ∧ bndU U (h.mo - 1 - m) = bndU h m) := fun m hm => by rw [← hU]; exact turn_bnd HK.out hm
      clear hLf hLt hUf hUt hl1 hl2 hU hlu eu0 eu1 hruw hvU hck hcu hUs ho kb HRU
      obtain ⟨c0, c1, c2'⟩ := FH.out wr hxr
      go_wp2_with fail
      refine KF1.out.mono ?_
      rintro e w7 ⟨A7, k7, rfl, hx7, i7⟩
      clear KF1 c0 c1 c2'
      obtain ⟨u0, u1, u2⟩ := FU.out w7 hx7
      go_wp2_with fail
      refine (KF2.out w7 hx7).mono ?_
      rintro e w8 ⟨A8, k8, rfl, hx8, i8⟩
      have hx78 := hx7.trans hx8
      have i7 := i7.ext hx8
      clear KF2 u0 u1 u2 hx7
      have hxP8 := hxr.trans hx78
      obtain ⟨c0, c1, c2'⟩ := FH.out w8 hxP8
      go_wp2_with fail
      refine (KT1.out w8 hxP8).mono ?_
      rintro e w9 ⟨A9, k9, rfl, hx9, i9⟩
      have hx79 := hx78.trans hx9
      have i7 := i7.ext hx9
      have i8 := i8.ext hx9
      clear KT1 c0 c1 c2' hx78 hxP8 hx8
      obtain ⟨u0, u1, u2⟩ := FU.out w9 hx79
      go_wp2_with fail
      refine (KT2.out w9 hx79).mono ?_
      rintro e w10 ⟨A10, k10, rfl, hx10, i10⟩
      have hx710 := hx79.trans hx10
      have i7 := i7.ext hx10
      have i8 := i8.ext hx10
      have i9 := i9.ext hx10
      clear KT2 u0 u1 u2 hx79 hx9
      have hxP10 := hxr.trans hx710
      obtain ⟨c0, c1, c2'⟩ := FH.out w10 hxP10
      go_upto_region 14 with fail
      obtain ⟨X, hX⟩ : ∃ X, (a : Int) % h.mo = X := ⟨_, rfl⟩
      have hXr : 0 ≤ X ∧ X < h.mo := by rw [← hX]; exact ⟨Int.emod_nonneg _ hmz, Int.emod_lt_of_pos _ (by omega)⟩
      try rw [hX]
      clear hX
      have K1 := hid (KB1.out X w10 hxP10)
      obtain ⟨t1, t2, t3⟩ := HTB.out X hXr
      obtain ⟨E, hE⟩ : ∃ L, bndE h X = L := ⟨_, rfl⟩
      obtain ⟨L, hL⟩ : ∃ L, bndL h X = L := ⟨_, rfl⟩
      obtain ⟨V, hV⟩ : ∃ L, bndU h X = L := ⟨_, rfl⟩
      rw [hE, hL, hV] at K1
      rw [hE] at t1
      rw [hL] at t2
      rw [hV] at t3
      have K2 : Hid (∀ w', Ext wr w' → _) := KB2.out (h.mo - 1 - X)
      rw [t1, t2, t3] at K2
      clear KB1 KB2 HTB t1 t2 t3 hE hL hV
      go_wp2_with fail
      refine K1.out.mono ?_
      rintro e w11 ⟨rfl, hx11⟩
      clear K1 c0 c1 c2'
      go_upto_region 15 with fail
      obtain ⟨P11, hP11⟩ : ∃ P, (w11.alloc (.cells #[.int .i64 L.1, .int .i64 L.2] 43)).alloc (.cells #[.int .i64 V.1, .int .i64 V.2] 43) = P := ⟨_, rfl⟩
      have xp11 : Ext w11 P11 := by rw [← hP11]; exact (Ext.refl _).alloc _ |>.alloc _
      have bp11 : P11.heap[w11.heap.size]? = some (.cells #[.int .i64 L.1, .int .i64 L.2] 43 (0, 0)) := by rw [← hP11]; exact (Below.heap_alloc _ _ _ (by simp)).trans (heap_alloc_new w11 _)
      have bq11 : P11.heap[w11.heap.size + 1]? = some (.cells #[.int .i64 V.1, .int .i64 V.2] 43 (0, 0)) := by
        rw [← hP11]
        have q := heap_alloc_new (w11.alloc (.cells #[.int .i64 L.1, .int .i64 L.2] 43)) (.cells #[.int .i64 V.1, .int .i64 V.2] 43)
        rw [World.size_alloc] at q
        exact q
      have m0 := blk_cells (xs := [.int .i64 L.1, .int .i64 L.2]) bp11 0 _ rfl
      have m1 := blk_cells (xs := [.int .i64 L.1, .int .i64 L.2]) bp11 1 _ rfl
      have n0 := blk_cells (xs := [.int .i64 V.1, .int .i64 V.2]) bq11 0 _ rfl
      have n1 := blk_cells (xs := [.int .i64 V.1, .int .i64 V.2]) bq11 1 _ rfl
      try rw [hP11]
      clear hP11 bp11 bq11
      have hx11' := hx11.trans xp11
      have i7 := i7.ext hx11'
      have i8 := i8.ext hx11'
      have i9 := i9.ext hx11'
      have i10 := i10.ext hx11'
      have hx7b := hx710.trans hx11'
      clear hx710 hxP10 hx10
      have hxPb := hxr.trans hx7b
      obtain ⟨c0, c1, c2'⟩ := FH.out P11 hxPb
      obtain ⟨u0, u1, u2⟩ := FU.out P11 hx7b
      go_wp2_with fail
      refine (K2.out P11 hx7b).mono ?_
      rintro e w12 ⟨rfl, hx12⟩
      have m0 := hx12.cell m0
      have m1 := hx12.cell m1
      have n0 := hx12.cell n0
      have n1 := hx12.cell n1
      clear K2 c0 c1 c2' u0 u1 u2
      go_upto_region 16 with fail
      obtain ⟨P12, hP12⟩ : ∃ P, (w12.alloc (.cells #[.int .i64 L.1, .int .i64 L.2] 43)).alloc (.cells #[.int .i64 V.1, .int .i64 V.2] 43) = P := ⟨_, rfl⟩
      have xp12 : Ext w12 P12 := by rw [← hP12]; exact (Ext.refl _).alloc _ |>.alloc _
      have bp12 : P12.heap[w12.heap.size]? = some (.cells #[.int .i64 L.1, .int .i64 L.2] 43 (0, 0)) := by rw [← hP12]; exact (Below.heap_alloc _ _ _ (by simp)).trans (heap_alloc_new w12 _)
      have bq12 : P12.heap[w12.heap.size + 1]? = some (.cells #[.int .i64 V.1, .int .i64 V.2] 43 (0, 0)) := by
        rw [← hP12]
        have q := heap_alloc_new (w12.alloc (.cells #[.int .i64 L.1, .int .i64 L.2] 43)) (.cells #[.int .i64 V.1, .int .i64 V.2] 43)
        rw [World.size_alloc] at q
        exact q
      have p0 := blk_cells (xs := [.int .i64 L.1, .int .i64 L.2]) bp12 0 _ rfl
      have p1 := blk_cells (xs := [.int .i64 L.1, .int .i64 L.2]) bp12 1 _ rfl
      have q0 := blk_cells (xs := [.int .i64 V.1, .int .i64 V.2]) bq12 0 _ rfl
      have q1 := blk_cells (xs := [.int .i64 V.1, .int .i64 V.2]) bq12 1 _ rfl
      try rw [hP12]
      clear hP12 bp12 bq12
      have hx12' := hx12.trans xp12
      have m0 := xp12.cell m0
      have m1 := xp12.cell m1
      have n0 := xp12.cell n0
      have n1 := xp12.cell n1
      have i7 := i7.ext hx12'
      have i8 := i8.ext hx12'
      have i9 := i9.ext hx12'
      have i10 := i10.ext hx12'
      have hx7c := hx7b.trans hx12'
      have KE1 := hid (eq_int A7 A8 k7 k8 Lf Lf P12 i7 i8 (by have := HL1.out; omega) (by have := HL1.out; omega))
      rw [show (Lf == Lf) = true from by simp] at KE1
      clear hx7b hxPb
      go_wp2_with fail
      refine KE1.out.mono ?_
      rintro e w13 ⟨rfl, hx13⟩
      clear KE1
      have KE2 := hid (eq_int A9 A10 k9 k10 Lt Lt w13 (i9.ext hx13) (i10.ext hx13) (by have := HL2.out; omega) (by have := HL2.out; omega))
      rw [show (Lt == Lt) = true from by simp] at KE2
      have m0 := hx13.cell m0
      have m1 := hx13.cell m1
      have n0 := hx13.cell n0
      have n1 := hx13.cell n1
      have p0 := hx13.cell p0
      have p1 := hx13.cell p1
      have q0 := hx13.cell q0
      have q1 := hx13.cell q1
      go_wp2_with fail
      refine KE2.out.mono ?_
      rintro e w14 ⟨rfl, hx14⟩
      clear KE2
      have m0 := hx14.cell m0
      have m1 := hx14.cell m1
      have n0 := hx14.cell n0
      have n1 := hx14.cell n1
      have p0 := hx14.cell p0
      have p1 := hx14.cell p1
      have q0 := hx14.cell q0
      have q1 := hx14.cell q1
      have hEnd := hx2.trans (hxr.trans (hx7c.trans (hx13.trans hx14)))
      go_wp2_with fail
      refine (awake_any w14).mono ?_
      rintro e w15 ⟨rfl, hx15⟩
      go_wp2
      go_ret
      exact ⟨rfl, hEnd.trans hx15⟩
end Go.Proofs.Ytjnobdcbbboeeaa
