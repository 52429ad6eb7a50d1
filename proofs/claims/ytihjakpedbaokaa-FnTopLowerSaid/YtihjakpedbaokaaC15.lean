/- Walk: the heap of what a fault reaches (impl.isolate). -/
import Derived.Test.YtihjakpedbaokaaC14
import Derived.Deep.RegionWith
namespace Go.Proofs.Ytihjakpedbaokaa.K
open Go Go.RowKit

set_option maxHeartbeats 400000 in
theorem indexQ_calls (l : List Int) (A : Option Addr) (c : Nat) (x : Int) (w : World) (hl : Rd encI 1 w A l) (hn : l.length ≤ 4611686018427387904) :
    Calls Try.prog 85 #[.slice A l.length c, .int .i64 x] w fun e w' => e = .returned (.int .i64 (indexOf l x)) ∧ ∃ n, w' = w.drewN n := by
  have HL := Lib.hid hl
  clear hl
  go_enter Try.func85, Try.ntmps85
  go_wp2
  go_loopw [8] (fun v w' => ∃ k : Nat, k ≤ l.length ∧ v = .int .i64 k ∧ Hid (idxFrom l.length (fun i => x == l.getD i 0) k = indexOf l x) ∧ ∃ n, w' = w.drewN n) (fun v _ => l.length - (intOf v).toNat)
  case atStart => exact ⟨0, Nat.zero_le _, rfl, rfl, 0, rfl⟩
  case round =>
    obtain ⟨k, hk, rfl, hb, n, rfl⟩ := hrel
    by_cases hlt : k < l.length
    · obtain ⟨ad, rfl, hab, g⟩ := HL.out.int hlt
      obtain ⟨y, hy⟩ : ∃ y, y = l.getD k 0 := ⟨_, rfl⟩
      rw [← hy] at g
      have HYY := Lib.hid hy
      clear hy
      by_cases he : x = y
      · have HE := Lib.hid he
        have he' : (x == y) = true := by simp [he]
        clear he
        go_wp2
        go_ret
        exact ⟨ret_int (by rw [← hb.out, idxFrom_hit hlt (by rw [← HYY.out]; simp [HE.out])]), n, rfl⟩
      · have HE := Lib.hid he
        have he' : (x == y) = false := by simp [he]
        clear he
        go_wp2
        go_roundw
        case rel => exact ⟨k + 1, hlt, by go_num, Lib.hid (by rw [← hb.out, idxFrom_miss hlt (by rw [← HYY.out]; simp [HE.out])]), n, rfl⟩
        case measure => simp [intOf]; omega
    · go_wp2
      go_ret
      exact ⟨ret_int (by rw [← hb.out, idxFrom_end (by omega)]), n, rfl⟩

/-! ### plain -/
theorem reachF_mem {F : List Flt} {f x : Int} (h : x ∈ reachF F f) : 0 ≤ x ∧ x ≤ f := chainIx_mem F _ f rfl x (List.mem_mergeSort.1 h)
theorem reachF_len (F : List Flt) (f : Nat) : (reachF F f).length ≤ f + 1 := by unfold reachF; rw [sortI_len]; exact chainIx_len F _ (f : Int) (by omega)
def isoAt (F : List Flt) (f : Int) (g : Int) : Flt := ⟨(fl F g.toNat).cls, (fl F g.toNat).code, indexOf (reachF F f) (fl F g.toNat).ctx⟩
/-- The heap of what a fault reaches. -/
def isoF (F : List Flt) (f : Int) : List Flt := (reachF F f).map (isoAt F f)
theorem indexOf_no {l : List Int} {x : Int} (h : ∀ y ∈ l, x < y) : indexOf l x = -1 := by
  have h1 := hasI_no h
  unfold hasI at h1
  have h2 := of_decide_eq_false h1
  have : -1 ≤ indexOf l x := by
    unfold indexOf
    have : ∀ (d k : Nat), l.length - k = d → -1 ≤ idxFrom l.length (fun i => x == l.getD i 0) k := by
      intro d
      induction d with
      | zero => intro k h; rw [idxFrom_end (by omega)]; omega
      | succ d ih =>
        intro k h
        rw [idxFrom, if_pos (by omega)]
        split
        · omega
        · exact ih (k + 1) (by omega)
    exact this _ 0 rfl
  omega
theorem isoF_take {F : List Flt} {f : Int} {k : Nat} {g : Int} (hk : k < (reachF F f).length) (hg : (reachF F f).getD k 0 = g) : (isoF F f).take (k + 1) = (isoF F f).take k ++ [isoAt F f g] := by
  unfold isoF
  rw [List.take_succ_eq_append_getElem (by simpa using hk), List.getElem_map]
  congr 2
  rw [← hg]
  simp [List.getElem?_eq_getElem hk]

/-- A call hands back a heap and a number. -/
def RetH (w : World) (F : List Flt) (n : Int) (e : Ending) (w' : World) : Prop :=
  ∃ A c, e = .returned (.tuple #[.agg #[.slice A F.length c], .int .i64 n]) ∧ Rd encF 5 w' A F ∧ (∀ ad, A = some ad → w.heap.size ≤ ad.block) ∧ Below w.heap.size w w'

set_option maxHeartbeats 4000000 in
set_option maxRecDepth 100000 in
theorem isolate_calls (F : List Flt) (A : Option Addr) (c : Nat) (f : Nat) (w : World) (hA : Rd encF 5 w A F) (hF : FOk F) (hn : F.length ≤ 1099511627776) (hf : f < F.length) :
    Calls Try.prog 52 #[.agg #[.slice A F.length c], .int .i64 f] w (RetH w (isoF F f) (indexOf (reachF F f) f)) := by
  obtain ⟨ad, rfl, -⟩ := hA.flt hf
  have HA := Lib.hid hA
  have HF := Lib.hid hF
  have hrl := reachF_len F f
  clear hA hF
  go_enter Try.func52, Try.ntmps52
  go_wp2_with (first
    | (go_at_call 84; refine (reach_calls F (some ad) c f ((w.alloc (.cells #[.slice (some ad) F.length c] 32)).alloc (.cells #[.slice none 0 0] 32)) ((HA.out.alloc _).alloc _) HF.out hn hf).mono ?_; rintro e w1 ⟨AL, cL, rfl, hr, -, hlc, hb1⟩; have HRL := Lib.hid hr; have HB1 := Lib.hid hb1; clear hr hb1)
    | (at_make; refine wpList_make_elem (k := 5) (enc := encF) (E := 59) (base := w1.heap.size) elemFault rfl (.const (.int .i64 0)) (.tmp 15) rfl (reachF F f).length rfl rfl (by omega) (by omega) (Nat.le_refl _) ?_; intro w2 ho2 hg2; have hb2 : Below w1.heap.size w1 w2 := below_grown (Below.refl _ _) hg2 (Nat.le_refl _); obtain ⟨y2, rfl⟩ := (⟨⟨w2, hb2⟩, rfl⟩ : ∃ y : Ext w1, w2 = y.1); have HO2 := Lib.hid ho2; clear ho2 hg2 hb2))
  have HB0 : Hid (∀ y : Ext w1, Blk y.1 w.heap.size 32 #[.slice (some ad) F.length c]) := Lib.hid fun y => (((Blk.new w 32 #[.slice (some ad) F.length c]).alloc _).ext ⟨w1, HB1.out⟩).ext y
  have HB2 : Hid (∀ y : Ext w1, Blk y.1 (w.heap.size + 1) 32 #[.slice none 0 0]) := Lib.hid fun y => by
    have := Blk.new (w.alloc (.cells #[.slice (some ad) F.length c] 32)) 32 #[.slice none 0 0]
    rw [show (w.alloc (.cells #[.slice (some ad) F.length c] 32)).heap.size = w.heap.size + 1 from by simp] at this
    exact (this.ext ⟨w1, HB1.out⟩).ext y
  have HFR : Hid (∀ y : Ext w1, Rd encF 5 y.1 (some ad) F) := Lib.hid fun y => (((HA.out.alloc _).alloc _).ext ⟨w1, HB1.out⟩).ext y
  have HW : Hid (∀ y : Ext w1, Below w.heap.size w y.1) := Lib.hid fun y => below_trans (below_trans (below_alloc (below_alloc (Below.refl _ _) _) _) HB1.out) y.2
  have hy2 := y2.2.size
  have hB0 := (HB2.out y2).lt
  have HO3 : Hid (Own encF 5 59 w1.heap.size (y2.1.alloc (.cells #[(.slice (some ⟨w1.heap.size, 0, none⟩) 0 (reachF F f).length)] 32)) (.slice (some ⟨w1.heap.size, 0, none⟩) 0 (reachF F f).length) []) := Lib.hid (HO2.out.alloc _)
  have HB3 : Hid (Blk (y2.1.alloc (.cells #[(.slice (some ⟨w1.heap.size, 0, none⟩) 0 (reachF F f).length)] 32)) y2.1.heap.size 32 #[(.slice (some ⟨w1.heap.size, 0, none⟩) 0 (reachF F f).length)]) := Lib.hid (Blk.new _ _ _)
  have HY3 : Hid (Below w1.heap.size w1 (y2.1.alloc (.cells #[(.slice (some ⟨w1.heap.size, 0, none⟩) 0 (reachF F f).length)] 32))) := Lib.hid (below_trans y2.2 (below_alloc (Below.refl _ _) _))
  go_loopw [20] (fun v w' => ∃ (y : Ext w1) (k : Nat) (V : Value), w' = y.1 ∧ v = .int .i64 k ∧ k ≤ (reachF F f).length ∧ Hid (Own encF 5 59 w1.heap.size y.1 V ((isoF F f).take k)) ∧ Hid (Blk y.1 y2.1.heap.size 32 #[V])) (fun v _ => (reachF F f).length - (intOf v).toNat)
  case atStart => exact ⟨⟨_, HY3.out⟩, 0, _, rfl, rfl, Nat.zero_le _, HO3, HB3⟩
  case round =>
    obtain ⟨y, k, V, rfl, rfl, hk, HO, HB⟩ := hrel
    clear HO2 HO3 HB3 HY3
    by_cases hlt : k < (reachF F f).length
    · obtain ⟨al, rfl, hal, gk⟩ := (HRL.out.ext y).int hlt
      obtain ⟨g, hg⟩ : ∃ g, g = (reachF F f).getD k 0 := ⟨_, rfl⟩
      have hgm := reachF_mem (F := F) (f := (f : Int)) (x := g) (by rw [hg]; simp [List.getElem?_eq_getElem hlt])
      rw [← hg] at gk
      obtain ⟨z, rfl⟩ : ∃ z : Nat, g = z := ⟨g.toNat, by omega⟩
      have hz : z < F.length := by omega
      obtain ⟨_, ead, hbl, g0, g1, g2, g3, g4⟩ := (HFR.out y).flt hz
      cases ead
      have hctx := HF.out z hz
      have HT : Hid ((isoF F f).take (k + 1) = (isoF F f).take k ++ [isoAt F f z]) := Lib.hid (isoF_take hlt hg.symm)
      have HI1 : Hid (indexOf (reachF F f) (-1) = -1) := Lib.hid (indexOf_no fun x hx => by have := reachF_mem hx; omega)
      have HRX : Hid (∀ y : Ext w1, Rd encI 1 y.1 (some al) (reachF F f)) := Lib.hid fun y => HRL.out.ext y
      have hcb := (HB0.out y).cell 0
      have hco := HB.out.cell 0
      have hly := HB.out.lt
      have hlb := (HB2.out y).lt
      obtain ⟨cl, hcl⟩ : ∃ cl, cl = (fl F z).cls := ⟨_, rfl⟩
      obtain ⟨cd, hcd⟩ : ∃ cd, cd = (fl F z).code := ⟨_, rfl⟩
      obtain ⟨cx, hcx⟩ : ∃ cx, cx = (fl F z).ctx := ⟨_, rfl⟩
      rw [← hcl] at g0
      rw [← hcd] at g1
      rw [← hcx] at g3 hctx
      have HCL := Lib.hid hcl
      have HCD := Lib.hid hcd
      have HCX := Lib.hid hcx
      clear hcl hcd hcx hg
      go_upto_region 7 with fail
      go_region_with (go_at_call 85; refine (indexQ_calls (reachF F f) (some al) cL _ _ (by exact (HRX.out y).alloc (.cells #[.int .i64 cl, .int .i64 cd, .int .i64 (-1), .int .i64 cx, .bool false] 59)) (by omega)).mono ?_; rintro e w5 ⟨rfl, n5, rfl⟩)
      all_goals (
        generalize hq : World.setCell (World.setCell (World.drewN _ _) _ _) _ _ = wz
        have HXz : Hid (Blk wz y.1.heap.size 59 #[.int .i64 cl, .int .i64 cd, .int .i64 (-1), .int .i64 (indexOf (reachF F f) cx), .bool false]) := Lib.hid (by
          rw [← hq]
          have h0 : Blk (World.drewN (y.1.alloc (.cells #[.int .i64 cl, .int .i64 cd, .int .i64 (-1), .int .i64 cx, .bool false] 59)) 0) y.1.heap.size 59 #[.int .i64 cl, .int .i64 cd, .int .i64 (-1), .int .i64 cx, .bool false] := Blk.new y.1 _ _
          have h1 := (h0.set_ 2 (.int .i64 (indexOf (reachF F f) (-1)))).set_ 3 (.int .i64 (indexOf (reachF F f) cx))
          rw [HI1.out] at h1 ⊢
          exact h1)
        have HOz : Hid (Own encF 5 59 w1.heap.size wz V ((isoF F f).take k)) := Lib.hid (by
          rw [← hq]
          refine own_keep (w := y.1.alloc (.cells #[.int .i64 cl, .int .i64 cd, .int .i64 (-1), .int .i64 cx, .bool false] 59)) (HO.out.alloc _) fun b hb => ?_
          have := (HO.out.lt b hb).2
          exact (Below.heap_setCell _ _ _ b (by simp; omega)).trans (Below.heap_setCell _ _ _ b (by simp; omega)))
        have HBz : Hid (Blk wz y2.1.heap.size 32 #[V]) := Lib.hid (by
          rw [← hq]
          exact Blk.far (Blk.far (HB.out.alloc (.cells #[.int .i64 cl, .int .i64 cd, .int .i64 (-1), .int .i64 cx, .bool false] 59)) (by simp; omega) _) (by simp; omega) _)
        have HYz : Hid (Below w1.heap.size w1 wz) := Lib.hid (by
          rw [← hq]
          have hyy := y.2.size
          exact ((below_drewN (below_trans y.2 (below_alloc (Below.refl _ _) (.cells #[.int .i64 cl, .int .i64 cd, .int .i64 (-1), .int .i64 cx, .bool false] 59))) _).setCell (p := ⟨y.1.heap.size, 2, none⟩) hyy _).setCell (p := ⟨y.1.heap.size, 3, none⟩) hyy _)
        clear hq
        have x0 := HXz.out.cell 0
        have x1 := HXz.out.cell 1
        have x2 := HXz.out.cell 2
        have x3 := HXz.out.cell 3
        have x4 := HXz.out.cell 4
        have xo := HBz.out.cell 0
        have xl := HXz.out.lt
        have yl := HBz.out.lt
        have xs := HYz.out.size
        clear g0 g1 g2 g3 g4 gk hcb hco
        have hob : V.ownBlock ≠ some y2.1.heap.size := fun e => by
          obtain ⟨cs, hc⟩ := own_type HOz.out e
          have := HBz.out
          unfold Blk at this
          rw [hc] at this
          cases this
        have HOB := Lib.hid hob
        clear hob
        go_wp2_with (at_builtin; (refine wpList_append_elem elemFault rfl (.tmp 40) (.tmp 42) rfl (v := V) rfl (HOz.out.alloc _) ⟨cl, cd, indexOf (reachF F f) cx⟩ ⟨wz.heap.size, 0, none⟩ 1 rfl rfl (fun j u hj => by match j, hj with | 0, hj => simp [encF] at hj; subst hj; simp [Addr.add] | 1, hj => simp [encF] at hj; subst hj; simp [Addr.add] | 2, hj => simp [encF] at hj; subst hj; simp [Addr.add] | 3, hj => simp [encF] at hj; subst hj; simp [Addr.add] | 4, hj => simp [encF] at hj; subst hj; simp [Addr.add]) (fun u hu => by simp [encF] at hu; rcases hu with rfl | rfl | rfl | rfl | rfl <;> rfl) (by simp; omega) (by omega) (by simp; omega) ?_; intro v1 w3 ho1 hg1; generalize hL : List.take k (isoF F f) ++ [(⟨cl, cd, indexOf (reachF F f) cx⟩ : Flt)] = L at ho1; have HLL := Lib.hid hL; clear hL; obtain ⟨A1, c1, rfl, -, -, -⟩ := ho1.form encF_len; have hbo := (hg1.block y2.1.heap.size (by simp; omega) (fun e => HOB.out e.symm)).trans (HBz.out.alloc _); have hc1 := Blk.cell hbo 0; have hc2 := Blk.frozen hbo 0; have hc3 := Blk.lt hbo; have HBW := Lib.hid (show Blk w3 y2.1.heap.size 32 #[V] from hbo); have HO1 := Lib.hid ho1; have HY1 := Lib.hid (own_below (HYz.out.alloc xs _) (HOz.out.alloc _) hg1 (by simp; omega)); clear ho1 hg1 hbo))
        go_roundw
        case rel =>
          refine ⟨⟨_, HY1.out.setCell (p := ⟨y2.1.heap.size, 0, none⟩) hy2 (.slice A1 L.length c1)⟩, k + 1, .slice A1 L.length c1, rfl, by go_num, hlt, Lib.hid ?_, Lib.hid ?_⟩
          · rw [HT.out]
            have e : isoAt F f z = ⟨cl, cd, indexOf (reachF F f) cx⟩ := by unfold isoAt; rw [Int.toNat_natCast, ← HCL.out, ← HCD.out, ← HCX.out]
            rw [e, HLL.out]
            refine own_keep HO1.out fun b hb => Below.heap_setCell _ _ _ b ?_
            rintro rfl
            obtain ⟨cs, hc⟩ := own_type HO1.out hb
            have := HBW.out
            unfold Blk at this
            rw [hc] at this
            cases this
          · have := HBW.out.set_ 0 (.slice A1 L.length c1)
            simpa using this
        case measure => simp [intOf]; omega)
    · have hk2 : k = (reachF F f).length := by omega
      subst hk2
      have HTT : Hid ((isoF F f).take (reachF F f).length = isoF F f) := Lib.hid (List.take_of_length_le (by unfold isoF; simp))
      obtain ⟨AV, cV, rfl, hrv, hfv, -⟩ := HO.out.form encF_len
      rw [HTT.out] at hrv HB
      have HFV := Lib.hid hfv
      have HRV := Lib.hid hrv
      have hco := HB.out.cell 0
      have hly := HB.out.lt
      have hlb := (HB2.out y).lt
      clear hrv hfv HO
      have hr0 := (HB2.out y).cell 0
      have hr1 := (HB2.out y).frozen 0
      have HRX : Hid (∀ y : Ext w1, Rd encI 1 y.1 AL (reachF F f)) := Lib.hid fun y => HRL.out.ext y
      clear hlt
      go_upto_region 10 with fail
      go_region_with (go_at_call 85; refine (indexQ_calls (reachF F f) AL cL _ _ (by exact HRX.out y) (by omega)).mono ?_; rintro e w5 ⟨rfl, n5, rfl⟩)
      all_goals (
        generalize hq : World.setCell _ _ _ = wz
        have HRZ : Hid (Rd encF 5 wz AV (isoF F f)) := Lib.hid (by
          rw [← hq]
          refine rd_keep (w := y.1) HRV.out (by simp) fun ad e => Below.heap_setCell _ _ _ _ ?_
          have := (HFV.out ad e).1
          have := HB1.out.size
          simp at *
          omega)
        have HBZ : Hid (Blk wz (w.heap.size + 1) 32 #[.slice AV (isoF F f).length cV]) := Lib.hid (by
          rw [← hq]
          have h0 : Blk (World.drewN y.1 0) (w.heap.size + 1) 32 #[.slice none 0 0] := HB2.out y
          have h1 := h0.set_ 0 (.slice AV (isoF F f).length cV)
          rw [show (#[Value.slice none 0 0] : Array Value).setIfInBounds 0 (.slice AV (isoF F f).length cV) = #[.slice AV (isoF F f).length cV] from rfl] at h1
          exact h1)
        have HYZ : Hid (Below w.heap.size w wz) := Lib.hid (by
          rw [← hq]
          exact (below_drewN (HW.out y) _).setCell (p := ⟨w.heap.size + 1, 0, none⟩) (by simp) _)
        clear hq hco hr0 hr1
        have z0 := HBZ.out.cell 0
        go_wp2
        exact bodyPost_ret (v := .tuple #[.agg #[.slice AV (isoF F f).length cV], .int .i64 (indexOf (reachF F f) f)]) (by simp [results, Try.results52, go_sem, z0]) rfl ⟨AV, cV, rfl, HRZ.out, (fun ad e => by have h1 := (HFV.out ad e).1; have h2 := HB1.out.size; simp at h2; omega), HYZ.out⟩)
end Go.Proofs.Ytihjakpedbaokaa.K
