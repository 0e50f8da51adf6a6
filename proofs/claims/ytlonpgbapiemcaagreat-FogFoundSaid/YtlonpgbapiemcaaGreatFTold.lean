/- The law's Told: reports of some blasts that are true of a walk. Printed by my gen_ftold.py. -/
import Derived.Test.YtlonpgbapiemcaaGreatFOrder
import Derived.Test.YtlonpgbapiemcaaGreatFHearK
namespace Go.Proofs.YtlonpgbapiemcaaGreat
open Go Go.RowKit Go.Shelf
set_option linter.unusedVariables false
set_option linter.unusedSimpArgs false

/-- Reports of some of the first numbers of an order, true of a walk. -/
structure ToldTo (f : Fg) (l ord : List Int) (j : Nat) (rs : List Rp) : Prop where
  inn : ∀ r ∈ rs, r.bl ∈ ord.take j
  one : againL sameR [] rs = false
  len : rs.length ≤ j
  hd : ∀ r ∈ rs, r.hd = hearsL2 (farM f) f l r.bl
theorem ToldTo.nil (f : Fg) (l ord : List Int) : ToldTo f l ord 0 [] := ⟨fun r h => (by cases h), rfl, Nat.le_refl _, fun r h => (by cases h)⟩
theorem ToldTo.skip {f : Fg} {l ord : List Int} {j : Nat} {rs : List Rp} (h : ToldTo f l ord j rs) : ToldTo f l ord (j + 1) rs :=
  ⟨fun r hr => (List.take_prefix_take_left (Nat.le_succ j) : ord.take j <+: ord.take (j + 1)).subset (h.inn r hr), h.one, Nat.le_succ_of_le h.len, h.hd⟩
theorem ToldTo.add {f : Fg} {l ord : List Int} {j : Nat} {rs : List Rp} (h : ToldTo f l ord j rs) (hn : ord.Nodup) {x : Int} (hx : ord[j]? = some x) : ToldTo f l ord (j + 1) (rs ++ [⟨x, hearsL2 (farM f) f l x⟩]) := by
  obtain ⟨hj, he⟩ := List.getElem?_eq_some_iff.1 hx
  have ht : ord.take (j + 1) = ord.take j ++ [x] := by rw [List.take_succ_eq_append_getElem hj, he]
  have hnot : x ∉ ord.take j := fun hm => by
    have h1 : (ord.take (j + 1)).Nodup := List.Nodup.sublist (List.take_sublist _ _) hn
    rw [ht, List.nodup_append] at h1
    exact h1.2.2 x hm x (by simp) rfl
  refine ⟨fun r hr => ?_, ?_, by simp; exact h.len, fun r hr => ?_⟩
  · rw [ht]
    rcases List.mem_append.1 hr with hr | hr
    · exact List.mem_append.2 (.inl (h.inn r hr))
    · simp only [List.mem_singleton] at hr; subst hr; simp
  · rw [again_snoc, h.one, Bool.false_or, List.nil_append, List.any_eq_false]
    intro r hr e
    unfold sameR at e
    rw [beq_iff_eq] at e
    have e' : x = r.bl := e
    exact hnot (by rw [e']; exact h.inn r hr)
  · rcases List.mem_append.1 hr with hr | hr
    · exact h.hd r hr
    · simp only [List.mem_singleton] at hr; subst hr; rfl
theorem ToldTo.true_ {f : Fg} (hf : FogOK f) {l ord : List Int} {rs : List Rp} {j : Nat} (h : ToldTo f l ord j rs) (ho : OrdL ord f.bl.length) (hj : j ≤ f.bl.length) : TrueR f l rs where
  bl := fun r hr => ho.lt _ (List.mem_of_mem_take (h.inn r hr))
  one := h.one
  len := by have := hf.bn; have := h.len; omega
  hd := h.hd
def ToldPost (D : Nat) (w : World) (f : Fg) (l : List Int) (e : Ending) (w' : World) : Prop :=
  ∃ rs A c B, e = .returned (.slice A rs.length c) ∧ Bel D w w' ∧ HeapR w' D ∧ TrueR f l rs ∧ w.heap.size ≤ B ∧ w'.ownsRow B 82 2 (.slice A rs.length c) rs.length (layRp.rows rs)

set_option maxRecDepth 100000 in
set_option maxHeartbeats 4000000 in
theorem told_any (D often : Nat) (v : Value) (f : Fg) (A : Option Addr) (cA : Nat) (l : List Int) (BA : Nat) (w : World) (hh : HeapR w D) (hf : OwnG w v f) (hok : FogOK f) (hl : WlOK f l) (hA : w.ownsRow BA 3 1 (.slice A l.length cA) l.length (l.map (.int .i64))) (hof : often ≤ 100) :
    Calls Tryz.prog 18 #[.pointer (some ⟨D, 0, none⟩), v, .slice A l.length cA, .int .i64 (often : Int)] w (ToldPost D w f l) := by
  have hbn := hok.bn
  have hmi := hok.mi
  have HOK := hid hok
  have HL := hid hl
  have hDw := hh.lt
  have HH := hid hh
  have HOG : Hid (∀ w', Bel D w w' → FgR w' v f) := fun w' h => (hf.bel hh h).fg
  have HWA : Hid (∀ w', Bel D w w' → Ints w' A l) := fun w' h => Rd.of_own (Deal_own HH.out hA h)
  obtain ⟨s, rfl, hr⟩ := hf.fg.rows
  obtain ⟨W0, hW0⟩ : ∃ W0, w.alloc (.cells #[.int .i64 f.pl, .int .i64 f.mi, .slice s.a1 f.tr.length s.c1, .slice s.a2 f.bl.length s.c2, .slice s.a3 f.ct.length s.c3] 29) = W0 := ⟨_, rfl⟩
  have hx0 : Ext w W0 := by rw [← hW0]; exact Ext.alloc (Ext.refl w) _
  have hz0 : W0.heap.size = w.heap.size + 1 := by rw [← hW0]; simp
  have FX : Hid (∀ w', Bel D W0 w' → w'.cell? ⟨w.heap.size, 0, none⟩ = some (.int .i64 f.pl) ∧ w'.cell? ⟨w.heap.size, 1, none⟩ = some (.int .i64 f.mi) ∧ w'.cell? ⟨w.heap.size, 2, none⟩ = some (.slice s.a1 f.tr.length s.c1) ∧ w'.cell? ⟨w.heap.size, 3, none⟩ = some (.slice s.a2 f.bl.length s.c2) ∧ w'.cell? ⟨w.heap.size, 4, none⟩ = some (.slice s.a3 f.ct.length s.c3)) := fun w' h =>
    ⟨h.cell (by rw [← hW0]; simp [go_sem]) (by simp; omega), h.cell (by rw [← hW0]; simp [go_sem]) (by simp; omega), h.cell (by rw [← hW0]; simp [go_sem]) (by simp; omega), h.cell (by rw [← hW0]; simp [go_sem]) (by simp; omega), h.cell (by rw [← hW0]; simp [go_sem]) (by simp; omega)⟩
  obtain ⟨q0, q1, q2, q3, q4⟩ := FX.out W0 (Bel.refl _ _)
  have hh0 := hh.ext hx0
  have hb0 : Bel D w W0 := hx0.bel
  have K := dealOrder_any D f.bl.length W0 hh0 (by omega)
  have HK := hid K
  clear hf hh hA hok hl K hr
  unfold Ads.val fval
  unfold Ads.val fval at HOG
  go_enter Tryz.func18, Tryz.ntmps18
  go_wp2_with fail
  try rw [hW0]
  clear hW0 q0 q1 q2 q3 q4
  refine HK.out.mono ?_
  clear HK
  rintro e w1 ⟨ord, A2, c2, B2, rfl, hord, hB2, o2, hb1, hh1⟩
  have HORD := hid hord
  have O2 := hid o2
  have HH1 := hid hh1
  have hB : W0.heap.size ≤ w1.heap.size := hb1.size
  have hb1w := hb0.trans hb1
  have R0 := hid (own_nil w1 w1.heap.size 82 2)
  have HT0 := hid (ToldTo.nil f l ord)
  clear hord o2
  go_wp2
  go_loopw [18, 9] (fun i18 i9 wr => ∃ (j : Nat) (rs : List Rp) (A3 : Option Addr) (c3 : Nat), j ≤ f.bl.length ∧ i18 = .int .i64 (j : Int) ∧ i9 = .slice A3 rs.length c3 ∧ Hid (ToldTo f l ord j rs) ∧ Hid (wr.ownsRow w1.heap.size 82 2 (.slice A3 rs.length c3) rs.length (layRp.rows rs)) ∧ Bel D w1 wr ∧ HeapR wr D) (fun i _ _ => f.bl.length - (intOf i).toNat)
  case atStart => exact ⟨0, [], none, 0, Nat.zero_le _, rfl, rfl, HT0, R0, Bel.refl _ _, hh1⟩
  case round =>
    obtain ⟨j, rs, A3, c3, hj, rfl, rfl, HT, O, hbr, hh⟩ := hrel
    by_cases hlt : j < f.bl.length
    · have hlt' : (j : Int) < (f.bl.length : Int) := by omega
      have hol := HORD.out.len
      obtain ⟨xv, hxv⟩ := get_of_lt ord j (by omega)
      have hxr := HORD.out.lt xv (mem_of_get hxv)
      obtain ⟨i, rfl⟩ : ∃ i : Nat, xv = i := ⟨xv.toNat, by omega⟩
      have hi : i < f.bl.length := by omega
      obtain ⟨b4, o4, e4, k4⟩ := Ints.at_ (Rd.of_own (Deal_own HH1.out O2.out hbr)) hxv
      subst e4
      have HXV := hid hxv
      have hrl := HT.out.len
      have hsz := hbr.size
      clear hxv hol
      go_wp2_with fail
      refine (once_any D (often : Int) wr hh (by omega) (by omega)).mono ?_
      rintro e w3 ⟨bb, rfl, hb3, hh3⟩
      have hbr3 := hbr.trans hb3
      have hbW3 := hb1.trans hbr3
      have hbx3 := hb0.trans hbW3
      cases bb
      case true =>
        have HT2 := hid HT.out.skip
        have O3 : Hid (w3.ownsRow w1.heap.size 82 2 (.slice A3 rs.length c3) rs.length (layRp.rows rs)) := hb3.own O.out (fun g hg e => by
          obtain ⟨cs, T, hc1, -, -, -, -, hc2⟩ := hh.fogB g e
          exact own_ne O.out hc1 hc2 hg)
        clear HT O
        go_wp2
        go_roundw
        case rel => exact ⟨j + 1, rs, A3, c3, by omega, by go_num, rfl, HT2, O3, hbr3, hh3⟩
        case measure => simp [intOf]; omega
      obtain ⟨b, hbl⟩ := get_of_lt f.bl i hi
      have hbb := HOK.out.bl b (mem_of_get hbl)
      obtain ⟨z1, z2⟩ := HL.out.at_ hbb.1
      have hll := HL.out.len
      obtain ⟨HB, hHB⟩ : ∃ HB, hearsL2 (farM f) f l (i : Int) = HB := ⟨_, rfl⟩
      have K := lhears_any _ f A cA l i b w3 (HOG.out w3 hbx3) HOK.out (HWA.out w3 hbx3) hbl z1 (by omega) z2
      rw [hHB] at K
      have HK := hid K
      have HT2 := HT.out.add HORD.out.nd HXV.out
      rw [hHB] at HT2
      have HT2 := hid HT2
      obtain ⟨q0, q1, q2, q3, q4⟩ := FX.out w3 hbW3
      clear K hHB hbl hbb z1 z2 hll
      go_wp2_with fail
      refine HK.out.mono ?_
      clear HK
      rintro e w4 ⟨rfl, h4⟩
      have hbr4 := hbr3.trans h4.bel
      have hh4 := hh3.ext h4
      have O4 : Hid (w4.ownsRow w1.heap.size 82 2 (.slice A3 rs.length c3) rs.length (layRp.rows rs)) := (hb3.trans h4.bel).own O.out (fun g hg e => by
        obtain ⟨cs, T, hc1, -, -, -, -, hc2⟩ := hh.fogB g e
        exact own_ne O.out hc1 hc2 hg)
      have hsz4 := hbr4.size
      have hxo := Ext.alloc (Ext.refl w4) (.cells #[.int .i64 (i : Int), .bool HB] 82)
      have hR9 : w1.heap.size ≤ (w4.alloc (.cells #[.int .i64 (i : Int), .bool HB] 82)).heap.size := by have := hxo.size; omega
      clear q0 q1 q2 q3 q4 HT O k4
      go_wp2_with (at_builtin; refine wpList_append_rd2 _ rfl _ _ 60 rfl elem_rep w1.heap.size (.slice A3 rs.length c3) rs.length (layRp.rows rs) rfl (own_below O4.out hxo) _ 1 1 [.int .i64 (i : Int), .bool HB] rfl rfl (rd_blk (heap_alloc_new w4 _)) (by intro u hu; simp at hu; rcases hu with rfl | rfl <;> rfl) (by omega) hR9 ?_)
      intro A5 c5 w5 hown5 hbel5 hgr5 hat5
      have hS5 : BelS (fun k => (Value.slice A3 rs.length c3).ownBlock = some k) w4 w5 := BelS.trans (hxo.belS) ((BelS.refl _ _).grown hgr5 (fun k e => e))
      have hAo : ∀ g, (Value.slice A3 rs.length c3).ownBlock = some g → w1.heap.size ≤ g := fun g hg => by
        obtain ⟨a, ha, he⟩ := slice_own hg
        have h1 := own_block_lt O4.out a ha
        omega
      have hh5 : HeapR w5 D := hh4.belS hS5 (fun k hk e => by have := hAo k e; omega)
      have hb5 : Bel D w1 w5 := hbr4.then_ hS5 (fun i hi e => by have := hAo i e; omega)
      have O5 : Hid (w5.ownsRow w1.heap.size 82 2 (.slice A5 (rs ++ [(⟨(i : Int), HB⟩ : Rp)]).length c5) (rs ++ [(⟨(i : Int), HB⟩ : Rp)]).length (layRp.rows (rs ++ [(⟨(i : Int), HB⟩ : Rp)]))) := by
        unfold Hid
        rw [layRp.rows_app, List.length_append]
        exact hown5
      have hlen5 : (rs ++ [(⟨(i : Int), HB⟩ : Rp)]).length = rs.length + 1 := by simp
      clear hown5 hbel5 hgr5 hat5 hS5 O4 hxo hR9
      go_wp2
      go_roundw
      case rel => exact ⟨j + 1, rs ++ [(⟨(i : Int), HB⟩ : Rp)], A5, c5, by omega, by go_num, by rw [hlen5], HT2, O5, hb5, hh5⟩
      case measure => simp [intOf]; omega
    · have hlt' : ¬ (j : Int) < (f.bl.length : Int) := by omega
      have HTR := hid (HT.out.true_ HOK.out HORD.out hj)
      have hbw := hb1w.trans hbr
      go_wp2
      go_ret
      exact ⟨rs, A3, c3, w1.heap.size, rfl, hbw, hh, HTR.out, by omega, O.out⟩
end Go.Proofs.YtlonpgbapiemcaaGreat
