/- Walk: the law on lowered programs (laws.FnTopLower). -/
import Derived.Test.YtihjakpedbaokaaC17
import Derived.Test.YtihjakpedbaokaaC22
import Derived.Test.YtihjakpedbaokaaC23
import Derived.Test.YtihjakpedbaokaaC04
import Derived.Deep.CutRange
import Derived.Deep.RegionHeld3
namespace Go.Proofs.Ytihjakpedbaokaa.K
open Go Go.RowKit

theorem runV_en (t : Tree) (p : Prg) : (runV t p).1.e = 2 → 0 ≤ (runV t p).1.v ∧ (runV t p).1.v < (runV t p).2.flt.length := by
  unfold runV
  by_cases hv : validProg t p = true
  · rw [if_pos hv, ← runR_pr hv]
    exact (runR_good hv).2.2
  · rw [if_neg hv]; intro h; cases h
theorem resH_len (t : Tree) (p : Prg) : (resH (runV t p).1 (runV t p).2.flt).length ≤ 11664 := by
  unfold resH
  split
  · rename_i h
    have h1 := runV_en t p h
    have h2 := (runV_len t p).2
    obtain ⟨v, hv⟩ : ∃ v : Nat, (runV t p).1.v = v := ⟨(runV t p).1.v.toNat, by omega⟩
    rw [hv] at h1 ⊢
    unfold isoF
    rw [List.length_map]
    have := reachF_len (runV t p).2.flt v
    omega
  · simp
set_option maxHeartbeats 4000000 in
set_option maxRecDepth 100000 in
theorem topLower_calls (t : Tree) (At : Option Addr) (nt : Nat) (p : Prg) (A : Option Addr) (c : Nat) (w : World) (ht : Rd encC 2 w At t) (htn : t.length ≤ 140737488351232) (hcap : t.length ≤ nt) (hs : Sized t) (hp : Rd encL 4 w A p) (hn : p.length ≤ 4398046511104) (hc : p.length ≤ c)
    (hAt : ∀ ad, At = some ad → ad.block < w.heap.size) (hA : ∀ ad, A = some ad → ad.block < w.heap.size) :
    Calls Try.prog 3 #[.agg #[.slice At t.length nt], .slice A p.length c] w fun e w' => e = .returned (.bool true) ∧ Below w.heap.size w w' := by
  have HT : Hid (∀ y : Ext (w.alloc (.cells #[.slice At t.length nt] 24)), Rd encC 2 y.1 At t) := Lib.hid fun y => (ht.alloc _).ext y
  have HP : Hid (∀ y : Ext (w.alloc (.cells #[.slice At t.length nt] 24)), Rd encL 4 y.1 A p) := Lib.hid fun y => (hp.alloc _).ext y
  have HAT : Hid (∀ y : Ext (w.alloc (.cells #[.slice At t.length nt] 24)), ∀ ad, At = some ad → ad.block < y.1.heap.size) := Lib.hid fun y ad e => by have := hAt ad e; have := y.2.size; simp at this; omega
  have HAA : Hid (∀ y : Ext (w.alloc (.cells #[.slice At t.length nt] 24)), ∀ ad, A = some ad → ad.block < y.1.heap.size) := Lib.hid fun y ad e => by have := hA ad e; have := y.2.size; simp at this; omega
  have HBX : Hid (∀ y : Ext (w.alloc (.cells #[.slice At t.length nt] 24)), y.1.cell? ⟨w.heap.size, 0, none⟩ = some (.slice At t.length nt)) := Lib.hid fun y => ((Blk.new w _ _).ext y).cell 0
  have HY : Hid (∀ y : Ext (w.alloc (.cells #[.slice At t.length nt] 24)), Below w.heap.size w y.1) := Lib.hid fun y => below_trans (below_alloc (Below.refl _ _) _) y.2
  have HS := Lib.hid hs
  have HLI : Hid (∀ y : Ext (w.alloc (.cells #[.slice At t.length nt] 24)), Calls Try.prog 7 #[.agg #[.slice At t.length nt], .slice A p.length c] y.1 (RetP y.1 (lwOut t p) (lwOk t p))) := Lib.hid fun y => lowerWithI_calls t At nt p A c y.1 (HT.out y) htn hs (HP.out y) hn hc
  have HLS : Hid (∀ y : Ext (w.alloc (.cells #[.slice At t.length nt] 24)), Calls Try.prog 8 #[.agg #[.slice At t.length nt], .slice A p.length c] y.1 (RetP y.1 (lwOut t p) (lwOk t p))) := Lib.hid fun y => lowerWithS_calls t At nt p A c y.1 (HT.out y) htn hs (HP.out y) hn hc hcap
  have hlen : (lwOut t p).length ≤ 96 := by
    unfold lwOut lwOk
    split
    · rename_i h
      rw [Bool.and_eq_true] at h
      have := (valid_ok h.1).len
      have := lowI_len _ p rfl
      omega
    · simp
  obtain ⟨L, hL⟩ : ∃ L, L = lwOut t p := ⟨_, rfl⟩
  rw [← hL] at hlen
  simp only [← hL] at HLI HLS
  clear ht hp hAt hA hs
  by_cases hok : lwOk t p = true
  · have hvv : validProg t p = true ∧ validProg t (lowI p) = true := by unfold lwOk at hok; rwa [Bool.and_eq_true] at hok
    have hLe : L = lowI p := by rw [hL]; unfold lwOut; rw [if_pos hok]
    have hsame := low_same hvv.1 hvv.2
    rw [← hLe] at hsame
    have hnone := lowI_none _ p rfl
    rw [← hLe] at hnone
    have hl1 := runV_len t p
    have hl2 := runV_len t L
    have ht1 := runV_told t p
    have ht2 := runV_told t L
    have hrun2 : ∀ (y : Ext (w.alloc (.cells #[.slice At t.length nt] 24))) (A1 : Option Addr) (c1 : Nat), Rd encL 4 y.1 A1 L → (∀ ad, A1 = some ad → ad.block < y.1.heap.size) → Calls Try.prog 10 #[.agg #[.slice At t.length nt], .slice A1 L.length c1] y.1 (RetR y.1 y.1.heap.size (runV t L).2.log (resX (runV t p).1 (runV t p).2.flt) (resH (runV t p).1 (runV t p).2.flt)) := fun y A1 c1 hr hf => by
      have := runProgram_calls t At nt L A1 c1 y.1 (HT.out y) htn HS.out hr (by omega) (HAT.out y) hf
      unfold RetRun at this
      rw [hsame.1, hsame.2.1] at this
      exact this
    have hrun1 : ∀ (y : Ext (w.alloc (.cells #[.slice At t.length nt] 24))), Calls Try.prog 10 #[.agg #[.slice At t.length nt], .slice A p.length c] y.1 (RetR y.1 y.1.heap.size (runV t p).2.log (resX (runV t p).1 (runV t p).2.flt) (resH (runV t p).1 (runV t p).2.flt)) := fun y => runProgram_calls t At nt p A c y.1 (HT.out y) htn HS.out (HP.out y) hn (HAT.out y) (HAA.out y)
    have hlh : (resH (runV t p).1 (runV t p).2.flt).length ≤ 4611686018427387904 := by
      have := resH_len t p
      omega
    obtain ⟨lg, hlg⟩ : ∃ lg, lg = (runV t p).2.log := ⟨_, rfl⟩
    obtain ⟨lg2, hlg2⟩ : ∃ lg, lg = (runV t L).2.log := ⟨_, rfl⟩
    obtain ⟨X, hX⟩ : ∃ X, X = resX (runV t p).1 (runV t p).2.flt := ⟨_, rfl⟩
    obtain ⟨HH, hHH⟩ : ∃ H, H = resH (runV t p).1 (runV t p).2.flt := ⟨_, rfl⟩
    simp only [← hlg, ← hlg2, ← hX, ← hHH] at hrun1 hrun2 hl1 hl2 ht1 ht2 hlh hsame
    rw [hok] at HLI HLS
    have HN := Lib.hid hnone
    have HSM := Lib.hid hsame.2.2
    have HT1 := Lib.hid ht1
    have HT2 := Lib.hid ht2
    have HRUN1 := Lib.hid hrun1
    have HRUN2 := Lib.hid hrun2
    obtain ⟨xe, xv⟩ := X
    clear hok hvv hLe hsame hnone ht1 ht2 hrun1 hrun2 hlg hlg2 hX hHH hL
    go_enter Try.func3, Try.ntmps3
    go_upto_region 6 with (first | (go_at_call 7; (refine (show Calls Try.prog 7 _ (w.alloc (.cells #[.slice At t.length nt] 24)) _ from HLI.out ⟨(w.alloc (.cells #[.slice At t.length nt] 24)), Below.refl _ _⟩).mono ?_; rintro e w2 ⟨A1, c1, rfl, hr1, hf1, hc1, hb1⟩; have HR1 := Lib.hid hr1; have HF1 := Lib.hid hf1; have HB1 := Lib.hid hb1; have d2 := HBX.out ⟨w2, HB1.out⟩; clear hr1 hf1 hb1)) | (go_at_call 8; refine (HLS.out ⟨w2, HB1.out⟩).mono ?_; rintro e w3 ⟨A2, c2, rfl, hr2, hf2, hc2, hb2⟩; have HR2 := Lib.hid hr2; have HB2 := Lib.hid hb2; have HB3 : Hid (Below ((w.alloc (.cells #[.slice At t.length nt] 24))).heap.size (w.alloc (.cells #[.slice At t.length nt] 24)) w3) := Lib.hid (below_trans HB1.out hb2); have HR3 : Hid (Rd encL 4 w3 A1 L) := Lib.hid (HR1.out.ext ⟨w3, hb2⟩); have d3 := HBX.out ⟨w3, HB3.out⟩; clear hr2 hf2 hb2) | (go_at_call 9; refine (calls_ext0 (W := w3) (equalLines_calls L L A1 A2 c1 c2 _ HR3.out HR2.out (by omega) (by omega))).mono ?_; rw [show decide (L = L) = true from decide_eq_true rfl]; rintro e w4 ⟨rfl, y4, rfl⟩; have d4 := HBX.out ⟨y4.1, below_trans HB3.out y4.2⟩) | (go_at_call 10; (refine (HRUN1.out ⟨y4.1, below_trans HB3.out y4.2⟩).mono ?_; rintro e w5 ⟨AL, cL, AH, cH, rfl, hl5, hh5, -, -, hb5⟩; have HL5 := Lib.hid hl5; have HH5 := Lib.hid hh5; have HB5 := Lib.hid (below_trans (below_trans HB3.out y4.2) hb5); have HR5 : Hid (Rd encL 4 w5 A1 L) := Lib.hid ((HR3.out.ext y4).ext ⟨w5, hb5⟩); have d5 := HBX.out ⟨w5.alloc (.cells #[.slice AL lg.length cL, .int .i64 xe, .int .i64 xv, .slice AH HH.length cH] 34), below_trans HB5.out (below_alloc (Below.refl _ _) _)⟩; have HF5 : Hid (∀ ad, A1 = some ad → ad.block < (w5.alloc (.cells #[.slice AL lg.length cL, .int .i64 xe, .int .i64 xv, .slice AH HH.length cH] 34)).heap.size) := Lib.hid (fun ad e => by have h1 := HF1.out ad e; have h2 := HB2.out.size; have h3 := y4.2.size; have h4 := hb5.size; simp at h4 ⊢; omega); clear hl5 hh5 hb5)))
    go_wp2_with (go_at_call 10; (refine (HRUN2.out ⟨w5.alloc (.cells #[.slice AL lg.length cL, .int .i64 xe, .int .i64 xv, .slice AH HH.length cH] 34), below_trans HB5.out (below_alloc (Below.refl _ _) _)⟩ A1 c1 (HR5.out.alloc _) HF5.out).mono ?_; rintro e w6 ⟨BL, kL, BH, kH, rfl, hl6, hh6, -, -, hb6⟩; have HL6 := Lib.hid hl6; have HH6 := Lib.hid hh6; have HB6 := Lib.hid hb6; clear hl6 hh6 hb6))
    have zA : Blk (w6.alloc (.cells #[.slice BL lg2.length kL, .int .i64 xe, .int .i64 xv, .slice BH HH.length kH] 34)) w5.heap.size 34 #[.slice AL lg.length cL, .int .i64 xe, .int .i64 xv, .slice AH HH.length cH] := ((Blk.new w5 _ _).ext ⟨w6, HB6.out⟩).alloc _
    have zB : Blk (w6.alloc (.cells #[.slice BL lg2.length kL, .int .i64 xe, .int .i64 xv, .slice BH HH.length kH] 34)) w6.heap.size 34 #[.slice BL lg2.length kL, .int .i64 xe, .int .i64 xv, .slice BH HH.length kH] := Blk.new w6 _ _
    have z56 : Below w5.heap.size w5 (w6.alloc (.cells #[.slice BL lg2.length kL, .int .i64 xe, .int .i64 xv, .slice BH HH.length kH] 34)) := below_trans (below_trans (below_alloc (Below.refl _ _) (.cells #[.slice AL lg.length cL, .int .i64 xe, .int .i64 xv, .slice AH HH.length cH] 34)) HB6.out) (below_alloc (Below.refl _ _) _)
    have zW : Below w.heap.size w (w6.alloc (.cells #[.slice BL lg2.length kL, .int .i64 xe, .int .i64 xv, .slice BH HH.length kH] 34)) := HY.out ⟨_, below_trans HB5.out z56⟩
    have zL5 : Rd encI 1 (w6.alloc (.cells #[.slice BL lg2.length kL, .int .i64 xe, .int .i64 xv, .slice BH HH.length kH] 34)) AL lg := HL5.out.ext ⟨_, z56⟩
    have zH5 : Rd encF 5 (w6.alloc (.cells #[.slice BL lg2.length kL, .int .i64 xe, .int .i64 xv, .slice BH HH.length kH] 34)) AH HH := HH5.out.ext ⟨_, z56⟩
    have zR5 : Rd encL 4 (w6.alloc (.cells #[.slice BL lg2.length kL, .int .i64 xe, .int .i64 xv, .slice BH HH.length kH] 34)) A1 L := HR5.out.ext ⟨_, z56⟩
    have zL6 : Rd encI 1 (w6.alloc (.cells #[.slice BL lg2.length kL, .int .i64 xe, .int .i64 xv, .slice BH HH.length kH] 34)) BL lg2 := HL6.out.alloc _
    have zH6 : Rd encF 5 (w6.alloc (.cells #[.slice BL lg2.length kL, .int .i64 xe, .int .i64 xv, .slice BH HH.length kH] 34)) BH HH := HH6.out.alloc _
    generalize w6.alloc (.cells #[.slice BL lg2.length kL, .int .i64 xe, .int .i64 xv, .slice BH HH.length kH] 34) = wz at zA zB zW zL5 zH5 zR5 zL6 zH6 ⊢
    clear z56
    obtain ⟨na, hna⟩ : ∃ na, na = w5.heap.size := ⟨_, rfl⟩
    obtain ⟨nb, hnb⟩ : ∃ nb, nb = w6.heap.size := ⟨_, rfl⟩
    rw [← hna] at zA ⊢
    rw [← hnb] at zB ⊢
    have ZA := Lib.hid zA
    have ZB := Lib.hid zB
    have ZW := Lib.hid zW
    have ZL5 := Lib.hid zL5
    have ZH5 := Lib.hid zH5
    have ZR5 := Lib.hid zR5
    have ZL6 := Lib.hid zL6
    have ZH6 := Lib.hid zH6
    clear zA zB zW zL5 zH5 zR5 zL6 zH6 hna hnb d2 d3 d4 d5
    go_loopw [11] (fun v w' => ∃ k : Nat, k ≤ L.length ∧ v = .int .i64 k ∧ w' = wz) (fun v _ => L.length - (intOf v).toNat)
    case atStart => exact ⟨0, Nat.zero_le _, rfl, rfl⟩
    case round =>
      obtain ⟨k, hk, rfl, rfl⟩ := hrel
      by_cases hlt : k < L.length
      · obtain ⟨la, rfl, -, -, g1, -, g3⟩ := ZR5.out.line hlt
        have hx := HN.out (ln L k) (by unfold ln; simp [List.getElem?_eq_getElem hlt])
        obtain ⟨x, hxx⟩ : ∃ x, x = ln L k := ⟨_, rfl⟩
        rw [← hxx] at g1 g3 hx
        obtain ⟨d, kd, a, b⟩ := x
        simp only [] at g1 g3 hx
        clear hxx
        by_cases hk11 : kd = 11
        · have hkt : (kd == 11) = true := by simp [hk11]
          have hbt : (b == 0) = false := beq_eq_false_iff_ne.mpr fun h => hx ⟨hk11, h⟩
          clear hx hk11
          go_wp2
          go_roundw
          case rel => exact ⟨k + 1, hlt, by go_num, by first | rfl | trivial⟩
          case measure => simp [intOf]; omega
        · have hkt : (kd == 11) = false := beq_eq_false_iff_ne.mpr hk11
          clear hx hk11
          go_wp2
          go_roundw
          case rel => exact ⟨k + 1, hlt, by go_num, by first | rfl | trivial⟩
          case measure => simp [intOf]; omega
      · go_upto_region 12 with fail
        have HSS : Hid (∀ z : Ext wr, z.1.cell? ⟨nb, 0, none⟩ = some (.slice BL lg2.length kL) ∧ z.1.cell? ⟨na, 0, none⟩ = some (.slice AL lg.length cL) ∧ z.1.cell? ⟨nb, 1, none⟩ = some (.int .i64 xe) ∧ z.1.cell? ⟨na, 1, none⟩ = some (.int .i64 xe) ∧ z.1.cell? ⟨nb, 2, none⟩ = some (.int .i64 xv) ∧ z.1.cell? ⟨na, 2, none⟩ = some (.int .i64 xv) ∧ z.1.cell? ⟨nb, 3, none⟩ = some (.slice BH HH.length kH) ∧ z.1.cell? ⟨na, 3, none⟩ = some (.slice AH HH.length cH)) :=
          Lib.hid fun z => ⟨(ZB.out.ext z).cell 0, (ZA.out.ext z).cell 0, (ZB.out.ext z).cell 1, (ZA.out.ext z).cell 1, (ZB.out.ext z).cell 2, (ZA.out.ext z).cell 2, (ZB.out.ext z).cell 3, (ZA.out.ext z).cell 3⟩
        obtain ⟨lw, hlw⟩ : ∃ l, l = low lg := ⟨_, rfl⟩
        obtain ⟨lw2, hlw2⟩ : ∃ l, l = low lg2 := ⟨_, rfl⟩
        have hll : lw.length ≤ 11664 := by rw [hlw]; unfold low; simp; omega
        have hll2 : lw2.length ≤ 11664 := by rw [hlw2]; unfold low; simp; omega
        have hle : decide (lw2 = lw) = true := decide_eq_true (by rw [hlw, hlw2]; exact HSM.out)
        have hLA : ∀ wx, Rd encI 1 wx AL lg → Calls Try.prog 12 #[.slice AL lg.length cL] wx (RetI wx lw) := fun wx hr => by rw [hlw]; exact lowDigits_calls lg AL cL wx hr (by omega) HT1.out
        have hLB : ∀ wx, Rd encI 1 wx BL lg2 → Calls Try.prog 12 #[.slice BL lg2.length kL] wx (RetI wx lw2) := fun wx hr => by rw [hlw2]; exact lowDigits_calls lg2 BL kL wx hr (by omega) HT2.out
        have HLA := Lib.hid hLA
        have HLB := Lib.hid hLB
        have HLE := Lib.hid hle
        clear hLA hLB hle hlw hlw2
        have HCB := Lib.hid (HLB.out wr.drew (show Rd encI 1 wr.drew BL lg2 from ZL6.out))
        go_region_held3 (fun w' => w'.cell? ⟨nb, 0, none⟩ = some (.slice BL lg2.length kL) ∧ w'.cell? ⟨na, 0, none⟩ = some (.slice AL lg.length cL) ∧ w'.cell? ⟨nb, 1, none⟩ = some (.int .i64 xe) ∧ w'.cell? ⟨na, 1, none⟩ = some (.int .i64 xe) ∧ w'.cell? ⟨nb, 2, none⟩ = some (.int .i64 xv) ∧ w'.cell? ⟨na, 2, none⟩ = some (.int .i64 xv) ∧ w'.cell? ⟨nb, 3, none⟩ = some (.slice BH HH.length kH) ∧ w'.cell? ⟨na, 3, none⟩ = some (.slice AH HH.length cH))
          (first | (with_reducible exact HSS.out ⟨_, hx10⟩) | (with_reducible exact HSS.out ⟨_, hx9⟩) | (with_reducible exact HSS.out ⟨_, hx8⟩) | (with_reducible exact HSS.out ⟨_, hx7⟩) | exact HSS.out ⟨_, (Below.refl _ _).drew⟩ | exact HSS.out ⟨_, Below.refl _ _⟩)
          (first
            | (go_at_call 12; ((with_reducible refine HCA.out.mono ?_); rintro e8 w8 ⟨DA, ka, rfl, hrA, -, hcA, hb8⟩; have HRA := Lib.hid hrA; have HRB8 : Hid (Rd encI 1 w8 DB lw2) := Lib.hid (HRB.out.ext ⟨w8, hb8⟩); have hx8 : Below wr.heap.size wr w8 := below_trans hx7 hb8; clear hrA hb8))
            | (go_at_call 12; ((with_reducible refine HCB.out.mono ?_); rintro e7 w7 ⟨DB, kb, rfl, hrB, -, hcB, hb7⟩; have HRB := Lib.hid hrB; have hx7 : Below wr.heap.size wr w7 := ⟨hb7.os, hb7.tape, hb7.output, hb7.size, hb7.block⟩; have HCA := Lib.hid (HLA.out w7 (ZL5.out.ext ⟨w7, hx7⟩)); clear hrB hb7))
            | (go_at_call 11; (refine (calls_val (equalInts_calls lw2 lw DB DA kb ka w8 HRB8.out HRA.out (by omega) (by omega)) (congrArg Value.bool HLE.out)).mono ?_; rintro e9 w9 ⟨rfl, hb9⟩; have hx9 : Below wr.heap.size wr w9 := below_trans hx8 hb9; clear hb9))
            | (go_at_call 13; (refine (calls_val (equalHeap_calls HH HH BH AH kH cH w9 (ZH6.out.ext ⟨w9, hx9⟩) (ZH5.out.ext ⟨w9, hx9⟩) hlh hlh) (congrArg Value.bool (decide_eq_true rfl))).mono ?_; rintro e10 w10 ⟨rfl, hb10⟩; have hx10 : Below wr.heap.size wr w10 := below_trans hx9 hb10; clear hb10)))
        all_goals (
          go_wp2
          go_ret
          exact ⟨rfl, ZW.out.trans (hx10.mono ZW.out.size)⟩)
  · have hok' : lwOk t p = false := Bool.eq_false_iff.mpr hok
    rw [hok'] at HLI HLS
    clear hok hok' hL
    go_enter Try.func3, Try.ntmps3
    go_wp2_with (first | (go_at_call 7; (refine (show Calls Try.prog 7 _ (w.alloc (.cells #[.slice At t.length nt] 24)) _ from HLI.out ⟨(w.alloc (.cells #[.slice At t.length nt] 24)), Below.refl _ _⟩).mono ?_; rintro e w2 ⟨A1, c1, rfl, hr1, hf1, hc1, hb1⟩; have HR1 := Lib.hid hr1; have HF1 := Lib.hid hf1; have HB1 := Lib.hid hb1; have d2 := HBX.out ⟨w2, HB1.out⟩; clear hr1 hf1 hb1)) | (go_at_call 8; refine (HLS.out ⟨w2, HB1.out⟩).mono ?_; rintro e w3 ⟨A2, c2, rfl, hr2, hf2, hc2, hb2⟩; have HR2 := Lib.hid hr2; have HB2 := Lib.hid hb2; have HB3 : Hid (Below ((w.alloc (.cells #[.slice At t.length nt] 24))).heap.size (w.alloc (.cells #[.slice At t.length nt] 24)) w3) := Lib.hid (below_trans HB1.out hb2); have HR3 : Hid (Rd encL 4 w3 A1 L) := Lib.hid (HR1.out.ext ⟨w3, hb2⟩); have d3 := HBX.out ⟨w3, HB3.out⟩; clear hr2 hf2 hb2) | (go_at_call 9; refine (calls_ext0 (W := w3) (equalLines_calls L L A1 A2 c1 c2 _ HR3.out HR2.out (by omega) (by omega))).mono ?_; rw [show decide (L = L) = true from decide_eq_true rfl]; rintro e w4 ⟨rfl, y4, rfl⟩; have d4 := HBX.out ⟨y4.1, below_trans HB3.out y4.2⟩) | (go_at_call 9; refine (calls_ext (W := w3) (equalLines_calls L L A1 A2 c1 c2 _ (HR3.out.ext y4) (HR2.out.ext y4) (by omega) (by omega))).mono ?_; rw [show decide (L = L) = true from decide_eq_true rfl]; rintro e w5 ⟨rfl, y5, rfl⟩))
    go_ret
    exact ⟨rfl, HY.out ⟨y5.1, below_trans HB3.out y5.2⟩⟩
end Go.Proofs.Ytihjakpedbaokaa.K
