/- Walk: a program's run (impl.RunProgram). -/
import Derived.Test.YtihjakpedbaokaaC16
import Derived.Test.YtihjakpedbaokaaC04
namespace Go.Proofs.Ytihjakpedbaokaa.K
open Go Go.RowKit

/-- A call hands back what a program does. -/
def RetRun (w : World) (t : Tree) (p : Prg) : Ending → World → Prop :=
  RetR w w.heap.size (runV t p).2.log (resX (runV t p).1 (runV t p).2.flt) (resH (runV t p).1 (runV t p).2.flt)
set_option maxHeartbeats 4000000 in
set_option maxRecDepth 100000 in
theorem runProgram_calls (t : Tree) (At : Option Addr) (nt : Nat) (p : Prg) (A : Option Addr) (c : Nat) (w : World) (ht : Rd encC 2 w At t) (htn : t.length ≤ 140737488351232) (hs : Sized t) (hp : Rd encL 4 w A p) (hn : p.length ≤ 4398046511104)
    (hAt : ∀ ad, At = some ad → ad.block < w.heap.size) (hA : ∀ ad, A = some ad → ad.block < w.heap.size) :
    Calls Try.prog 10 #[.agg #[.slice At t.length nt], .slice A p.length c] w (RetRun w t p) := by
  have HT := Lib.hid ht
  have HS := Lib.hid hs
  have HP := Lib.hid hp
  have HAT := Lib.hid hAt
  have HA := Lib.hid hA
  clear ht hs hp hAt hA
  have HB0 : Hid (∀ y : Ext (((w.alloc (.cells #[.slice At t.length nt] 24))).alloc (.cells #[.slice none 0 0, .int .i64 0, .int .i64 0, .slice none 0 0] 34)), Blk y.1 w.heap.size 24 #[.slice At t.length nt]) := Lib.hid fun y => ((Blk.new w _ _).alloc _).ext y
  have HB1 : Hid (∀ y : Ext (((w.alloc (.cells #[.slice At t.length nt] 24))).alloc (.cells #[.slice none 0 0, .int .i64 0, .int .i64 0, .slice none 0 0] 34)), Blk y.1 (w.heap.size + 1) 34 #[.slice none 0 0, .int .i64 0, .int .i64 0, .slice none 0 0]) := Lib.hid fun y => by
    have h0 := Blk.new (w.alloc (.cells #[.slice At t.length nt] 24)) 34 #[.slice none 0 0, .int .i64 0, .int .i64 0, .slice none 0 0]
    rw [show ((w.alloc (.cells #[.slice At t.length nt] 24))).heap.size = w.heap.size + 1 from by simp] at h0
    exact h0.ext y
  by_cases hv : validProg t p = true
  · have HV := Lib.hid hv
    obtain ⟨R, hR⟩ : ∃ R, R = runR t p := ⟨_, rfl⟩
    have hg := runR_good hv
    have hsz := runR_size hv
    have hpr := runR_pr hv
    have hlc : ∀ (b : Nat) (m : M) (wx : World), Mach ⟨b, t, At, nt, p, A, c⟩ wx m ⟨[], [], -1⟩ → Calls Try.prog 31 #[.pointer (some ⟨m.g, 0, none⟩), .int .i64 ((0 : Nat) : Int), .int .i64 p.length, .int .i64 (-1)] wx (MRet ⟨b, t, At, nt, p, A, c⟩ wx m (runR t p)) := fun b m wx hm =>
      lines_calls _ (ValidOk.env hv) (fun i hi hk => (valid_ok hv).two hi hk) 6 (blockR t p 6) (block_calls _ (ValidOk.env hv) (fun i hi hk => (valid_ok hv).two hi hk) (valid_no hv).1 6) (good_block (valid_no hv).1 (fun i hi => ((valid_ok hv).line i hi).arg) 6) (valid_no hv).1 0 p.length (Nat.le_refl _) (fun k _ hk => ⟨hk, by have := ((valid_ok hv).dep hk).1; show 5 < (ln p k).depth + (6 : Nat); omega⟩) (-1) ⟨[], [], -1⟩ m wx hm (sok_start _) (Int.le_refl _) (by simp) (Nat.le_trans hsz.1 (by omega)) (Nat.le_trans hsz.2 (by omega))
    rw [← hR] at hg hsz hpr
    simp only [← hR] at hlc
    have HVV : Hid (runV t p = PR R) := Lib.hid (by unfold runV; rw [if_pos hv, hpr])
    have HG := Lib.hid hg
    have HSZ := Lib.hid hsz
    have HLC := Lib.hid hlc
    obtain ⟨⟨xe, xv⟩, s5⟩ := R
    clear hv hg hsz hpr hlc hR
    go_enter Try.func10, Try.ntmps10
    go_wp2_with (first
      | (go_at_call 16; refine (calls_ext0 (W := (((w.alloc (.cells #[.slice At t.length nt] 24))).alloc (.cells #[.slice none 0 0, .int .i64 0, .int .i64 0, .slice none 0 0] 34))) (validProg_calls t At nt p A c _ ((HT.out.alloc _).alloc _) htn HS.out ((HP.out.alloc _).alloc _) hn)).mono ?_; rw [HV.out]; rintro e w3 ⟨rfl, y, rfl⟩; have c0 := (HB0.out y).cell 0; have r0 := (HB1.out y).cell 0; have r1 := (HB1.out y).frozen 0; have r2 := (HB1.out y).frozen 1; have r3 := (HB1.out y).frozen 2; have r4 := (HB1.out y).frozen 3; have r5 := (HB1.out y).cell 1; have r6 := (HB1.out y).cell 2; have r7 := (HB1.out y).cell 3; have rl := (HB1.out y).lt)
      | (go_at_call 29; (refine (machineOf_calls t At nt p A c y.1 (((HT.out.alloc _).alloc _).ext y) (((HP.out.alloc _).alloc _).ext y) (fun ad e => by have := HAT.out ad e; omega) (fun ad e => by have := HA.out ad e; omega)).mono ?_; rintro e w4 ⟨m, rfl, hm4, hb4⟩; obtain ⟨g, lv, fv⟩ := m; have HM4 := Lib.hid hm4; have HB4 := Lib.hid hb4; have HBR4 : Hid (Blk w4 (w.heap.size + 1) 34 #[.slice none 0 0, .int .i64 0, .int .i64 0, .slice none 0 0]) := Lib.hid ((HB1.out y).ext ⟨w4, hb4⟩); clear hm4 hb4))
      | (go_at_call 31; (refine (HLC.out y.1.heap.size ⟨g, lv, fv⟩ w4 HM4.out).mono ?_; rintro e w5 ⟨⟨g5, lv5, fv5⟩, rfl, hm5, hs5, hg5⟩; simp only [] at hg5; replace hg5 := hg5.symm; subst hg5; have HM5 := Lib.hid hm5; have HS5 := Lib.hid hs5; have HBR5 : Hid (Blk w5 (w.heap.size + 1) 34 #[.slice none 0 0, .int .i64 0, .int .i64 0, .slice none 0 0]) := Lib.hid (hs5.blkOf HM4.out HBR4.out (by decide) (by decide) (by decide)); clear hm5 hs5))
      | (go_at_call 30; (refine (result_calls ⟨y.1.heap.size, t, At, nt, p, A, c⟩ ⟨g, lv5, fv5⟩ s5 ⟨xe, xv⟩ w5 HM5.out HG.out.1.ctx HG.out.2.2 (by have := HSZ.out.2; exact Nat.le_trans this (by omega))).mono ?_; rintro e w6 ⟨AL, cL, AH, cH, rfl, hl6, hh6, hf6, hf7, hb6⟩; have HL6 := Lib.hid hl6; have HH6 := Lib.hid hh6; have HF6 := Lib.hid hf6; have HF7 := Lib.hid hf7; have HB6 := Lib.hid hb6; have HBR6 : Hid (Blk w6 (w.heap.size + 1) 34 #[.slice none 0 0, .int .i64 0, .int .i64 0, .slice none 0 0]) := Lib.hid (HBR5.out.ext ⟨w6, hb6⟩); have z0 := HBR6.out.cell 0; have z1 := HBR6.out.frozen 0; have z2 := HBR6.out.frozen 1; have z3 := HBR6.out.frozen 2; have z4 := HBR6.out.frozen 3; have z5 := HBR6.out.cell 1; have z6 := HBR6.out.cell 2; have z7 := HBR6.out.cell 3; have zl := HBR6.out.lt; clear hl6 hh6 hf6 hf7 hb6)))
    refine bodyPost_ret (results_cell_row rfl _ _ (w.heap.size + 1) 34 #[.slice AL s5.log.length cL, .int .i64 (resX ⟨xe, xv⟩ s5.flt).e, .int .i64 (resX ⟨xe, xv⟩ s5.flt).v, .slice AH (resH ⟨xe, xv⟩ s5.flt).length cH] (0, 0) _ rfl (HBR6.out.set4 _ _ _ _) Try.underlying34 rfl (by kernel_rfl)) rfl ?_
    unfold RetRun
    rw [HVV.out]
    have hy := y.2.size
    have h4 := HB4.out.size
    have h5 := HS5.out.size
    have hyw : w.heap.size + 2 ≤ y.1.heap.size := by simpa using hy
    have b1 : Below w.heap.size w y.1 := below_trans (below_alloc (below_alloc (Below.refl _ _) _) _) y.2
    have b2 : Below w.heap.size w w4 := b1.trans (HB4.out.mono (by omega))
    have b3 : Below w.heap.size w4 w5 := HS5.out.below (by omega) fun b hb => by have h := (HM4.out.lt b hb).1; simp only [] at h; omega
    have b4 : Below w.heap.size w w6 := (b2.trans b3).trans (HB6.out.mono (by omega))
    exact retR_end (x := resX ⟨xe, xv⟩ s5.flt) (by omega) b4 HL6.out HH6.out (fun ad e => by have h := HF6.out ad e; omega) (fun ad e => by have h := HF7.out ad e; omega) (fun ad e => by have h := HF6.out ad e; omega) (fun ad e => by have h := HF7.out ad e; omega)
  · have HV := Lib.hid (Bool.eq_false_iff.mpr hv)
    have HVV : Hid (runV t p = (⟨0, 0⟩, ⟨[], []⟩)) := Lib.hid (if_neg hv)
    clear hv
    go_enter Try.func10, Try.ntmps10
    go_wp2_with (go_at_call 16; refine (calls_ext0 (W := (((w.alloc (.cells #[.slice At t.length nt] 24))).alloc (.cells #[.slice none 0 0, .int .i64 0, .int .i64 0, .slice none 0 0] 34))) (validProg_calls t At nt p A c _ ((HT.out.alloc _).alloc _) htn HS.out ((HP.out.alloc _).alloc _) hn)).mono ?_; rw [HV.out]; rintro e w3 ⟨rfl, y, rfl⟩; have c0 := (HB0.out y).cell 0; have r0 := (HB1.out y).cell 0; have r1 := (HB1.out y).frozen 0; have r2 := (HB1.out y).frozen 1; have r3 := (HB1.out y).frozen 2; have r4 := (HB1.out y).frozen 3; have r5 := (HB1.out y).cell 1; have r6 := (HB1.out y).cell 2; have r7 := (HB1.out y).cell 3; have rl := (HB1.out y).lt)
    refine bodyPost_ret (results_cell_row rfl _ _ (w.heap.size + 1) 34 #[.slice none 0 0, .int .i64 0, .int .i64 0, .slice none 0 0] (0, 0) _ rfl ((HB1.out y).set4 _ _ _ _) Try.underlying34 rfl (by kernel_rfl)) rfl ?_
    unfold RetRun
    rw [HVV.out]
    exact retR_end (x := ⟨0, 0⟩) (H := []) (log := []) (by omega) (below_trans (below_alloc (below_alloc (Below.refl _ _) _) _) y.2) Rd.nil Rd.nil (fun ad e => by cases e) (fun ad e => by cases e) (fun ad e => by cases e) (fun ad e => by cases e)
end Go.Proofs.Ytihjakpedbaokaa.K
