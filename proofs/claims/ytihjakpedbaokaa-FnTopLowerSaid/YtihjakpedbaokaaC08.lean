/- Walk: a loop (impl: machine.line). -/
import Derived.Test.YtihjakpedbaokaaC06
namespace Go.Proofs.Ytihjakpedbaokaa.K
open Go Go.RowKit

theorem loop_grow {nt : Nat} {f : St → En × St} {hd : Int} (hf : ∀ s, SOk nt s → hd < s.flt.length → Good nt s (f s)) (n : Nat) (s : St) (h : SOk nt s) (h2 : hd < s.flt.length) : Grow (f s).2 (loopR f (n + 1) s).2 := by
  unfold loopR
  simp only []
  split
  · exact Grow.refl _
  · split
    · exact Grow.refl _
    · have g := hf s h h2
      exact (good_loop hf n (f s).2 g.1 (by have := g.2.1.flt.length_le; omega)).2.1
theorem MRet.alloc {E : Env} {w w' : World} {m : M} {x : En × St} {e : Ending} (h : MRet E w m x e w') (o : Obj) : MRet E w m x e (w'.alloc o) := by
  obtain ⟨m', he, hm, hs, hg⟩ := h
  exact ⟨m', he, hm.alloc o, hs.alloc o, hg⟩
theorem loopR_ret {f : St → En × St} {n : Nat} {s : St} (h : (f s).1.e = 1 ∨ (f s).1.e = 2) : loopR f (n + 1) s = f s := by unfold loopR; simp only []; rw [if_pos h]
theorem loopR_brk {f : St → En × St} {n : Nat} {s : St} (h : (f s).1.e = 3) : loopR f (n + 1) s = (⟨0, 0⟩, (f s).2) := by unfold loopR; simp only []; rw [if_neg (by omega), if_pos h]
theorem loopR_go {f : St → En × St} {n : Nat} {s : St} (h1 : (f s).1.e ≠ 1) (h2 : (f s).1.e ≠ 2) (h3 : (f s).1.e ≠ 3) : loopR f (n + 1) s = loopR f n (f s).2 := by
  conv => lhs; unfold loopR
  simp only []
  rw [if_neg (by omega), if_neg h3]
set_option maxHeartbeats 4000000 in
set_option maxRecDepth 100000 in
theorem line_12 (E : Env) (B : Ru) (i : Nat) (hd : Int) (s : St) (m : M) (w : World) (hi : i < E.p.length) (h : Mach E w m s) (hk : (ln E.p i).kind = 12) (ok : Nat → Prop) (hB : BCalls E ok B) (hok : ok i) (hs : SOk E.t.length s) (hg : GoodR E.t.length B) (h1 : -1 ≤ hd) (h2 : hd < s.flt.length) (ha : 0 ≤ (ln E.p i).a ∧ (ln E.p i).a ≤ 3) (hl : (lineR E.p B i hd s).2.log.length ≤ 1099511627776) (hfl : (lineR E.p B i hd s).2.flt.length ≤ 1099511627776) :
    Calls Try.prog 55 #[.pointer (some ⟨m.g, 0, none⟩), .int .i64 i, .int .i64 hd] w (MRet E w m (lineR E.p B i hd s)) := by
  obtain ⟨g, lv, fv⟩ := m
  obtain ⟨hgl, -, cp, cl, -, c1, f2, -⟩ := h.face
  obtain ⟨ad, hA, hab, g0, g1, g2, g3⟩ := h.p.line hi
  have HA := Lib.hid hA
  rw [hA] at cp
  obtain ⟨x, hx⟩ : ∃ x, x = ln E.p i := ⟨_, rfl⟩
  rw [← hx] at g0 g1 g2 g3 hk ha
  obtain ⟨d, k, a, b⟩ := x
  simp only [] at g0 g1 g2 g3 hk ha
  subst hk
  have HX := Lib.hid hx
  have HRb := Lib.hid hB
  have HSO := Lib.hid hs
  have HGR := Lib.hid (fun s h h2 => hg i hd s h h1 h2 : ∀ s, SOk E.t.length s → hd < s.flt.length → Good E.t.length s (B i hd s))
  rw [lineR_12 HX.out.symm] at hl hfl ⊢
  obtain ⟨c, rfl⟩ : ∃ c : Nat, a = c := ⟨a.toNat, by omega⟩
  simp only [Int.toNat_natCast] at hl hfl ⊢
  obtain ⟨R, hR⟩ : ∃ R, R = loopR (B i hd) c s := ⟨_, rfl⟩
  rw [← hR] at hl hfl ⊢
  have HR := Lib.hid hR
  clear hB hs hg hR
  have H := Lib.hid h
  obtain ⟨n, hn⟩ : ∃ n, n = E.p.length := ⟨_, rfl⟩
  rw [← hn] at cp hi
  have HN := Lib.hid hn
  clear hA hx h hn
  have q0 := cell_alloc' (.cells #[.int .i64 0, .int .i64 0] 56) g0
  have q1 := cell_alloc' (.cells #[.int .i64 0, .int .i64 0] 56) g1
  have q2 := cell_alloc' (.cells #[.int .i64 0, .int .i64 0] 56) g2
  have q3 := cell_alloc' (.cells #[.int .i64 0, .int .i64 0] 56) g3
  have qp := cell_alloc' (.cells #[.int .i64 0, .int .i64 0] 56) cp
  have HM : Hid (∀ y : Ext ((w.alloc (.cells #[.int .i64 0, .int .i64 0] 56)).alloc (.cells #[.int .i64 d, .int .i64 12, .int .i64 c, .int .i64 b] 37)), Mach E y.1 ⟨g, lv, fv⟩ s) := Lib.hid fun y => ((H.out.alloc _).alloc _).ext y
  have gl : ∀ y : Ext ((w.alloc (.cells #[.int .i64 0, .int .i64 0] 56)).alloc (.cells #[.int .i64 d, .int .i64 12, .int .i64 c, .int .i64 b] 37)), g < y.1.heap.size := fun y => y.lt (by simp; omega)
  have y1 : ∀ y : Ext ((w.alloc (.cells #[.int .i64 0, .int .i64 0] 56)).alloc (.cells #[.int .i64 d, .int .i64 12, .int .i64 c, .int .i64 b] 37)), y.1.cell? ⟨g, 4, none⟩ = some (.int .i64 s.first) := fun y => (HM.out y).face.c1
  have y4 : ∀ y : Ext ((w.alloc (.cells #[.int .i64 0, .int .i64 0] 56)).alloc (.cells #[.int .i64 d, .int .i64 12, .int .i64 c, .int .i64 b] 37)), y.1.frozen? ⟨g, 4, none⟩ = false := fun y => (HM.out y).face.f4
  have HBK : Hid (∀ y : Ext ((w.alloc (.cells #[.int .i64 0, .int .i64 0] 56)).alloc (.cells #[.int .i64 d, .int .i64 12, .int .i64 c, .int .i64 b] 37)), Blk y.1 w.heap.size 56 #[.int .i64 0, .int .i64 0]) := Lib.hid fun y => ((Blk.new w _ _).alloc _).ext y
  have HBL : Hid (∀ y : Ext ((w.alloc (.cells #[.int .i64 0, .int .i64 0] 56)).alloc (.cells #[.int .i64 d, .int .i64 12, .int .i64 c, .int .i64 b] 37)), Blk y.1 (w.heap.size + 1) 37 #[.int .i64 d, .int .i64 12, .int .i64 c, .int .i64 b]) := Lib.hid fun y => (by have := Blk.new (w.alloc (.cells #[.int .i64 0, .int .i64 0] 56)) 37 #[.int .i64 d, .int .i64 12, .int .i64 c, .int .i64 b]; rw [show (w.alloc (.cells #[.int .i64 0, .int .i64 0] 56)).heap.size = w.heap.size + 1 from by simp] at this; exact this.ext y)
  have HST : Hid (∀ y : Ext ((w.alloc (.cells #[.int .i64 0, .int .i64 0] 56)).alloc (.cells #[.int .i64 d, .int .i64 12, .int .i64 c, .int .i64 b] 37)), Step w ⟨g, lv, fv⟩ y.1 ⟨g, lv, fv⟩) := Lib.hid fun y => (((Step.refl w _).alloc _).alloc _).trans (Step.ext _ y)
  have ll : ∀ y : Ext ((w.alloc (.cells #[.int .i64 0, .int .i64 0] 56)).alloc (.cells #[.int .i64 d, .int .i64 12, .int .i64 c, .int .i64 b] 37)), w.heap.size + 1 < y.1.heap.size := fun y => (HBL.out y).lt
  have l1 : ∀ y : Ext ((w.alloc (.cells #[.int .i64 0, .int .i64 0] 56)).alloc (.cells #[.int .i64 d, .int .i64 12, .int .i64 c, .int .i64 b] 37)), y.1.cell? ⟨w.heap.size + 1, 1, none⟩ = some (.int .i64 12) := fun y => (HBL.out y).cell 1
  have l2 : ∀ y : Ext ((w.alloc (.cells #[.int .i64 0, .int .i64 0] 56)).alloc (.cells #[.int .i64 d, .int .i64 12, .int .i64 c, .int .i64 b] 37)), y.1.cell? ⟨w.heap.size + 1, 2, none⟩ = some (.int .i64 c) := fun y => (HBL.out y).cell 2
  have l3 : ∀ y : Ext ((w.alloc (.cells #[.int .i64 0, .int .i64 0] 56)).alloc (.cells #[.int .i64 d, .int .i64 12, .int .i64 c, .int .i64 b] 37)), y.1.cell? ⟨w.heap.size + 1, 3, none⟩ = some (.int .i64 b) := fun y => (HBL.out y).cell 3
  have e0 : ∀ (y : Ext ((w.alloc (.cells #[.int .i64 0, .int .i64 0] 56)).alloc (.cells #[.int .i64 d, .int .i64 12, .int .i64 c, .int .i64 b] 37))) (j : Nat), y.1.frozen? ⟨w.heap.size, j, none⟩ = false := fun y j => (HBK.out y).frozen j
  have e1 : ∀ (y : Ext ((w.alloc (.cells #[.int .i64 0, .int .i64 0] 56)).alloc (.cells #[.int .i64 d, .int .i64 12, .int .i64 c, .int .i64 b] 37))), y.1.cell? ⟨w.heap.size, 0, none⟩ = some (.int .i64 0) := fun y => (HBK.out y).cell 0
  have e2 : ∀ (y : Ext ((w.alloc (.cells #[.int .i64 0, .int .i64 0] 56)).alloc (.cells #[.int .i64 d, .int .i64 12, .int .i64 c, .int .i64 b] 37))), y.1.cell? ⟨w.heap.size, 1, none⟩ = some (.int .i64 0) := fun y => (HBK.out y).cell 1
  clear g0 g1 g2 g3 cp cl c1 f2
  go_enter Try.func55, Try.ntmps55
  go_wp2_with (go_at_call 88; refine (calls_ext0 (W := ((w.alloc (.cells #[.int .i64 0, .int .i64 0] 56)).alloc (.cells #[.int .i64 d, .int .i64 12, .int .i64 c, .int .i64 b] 37))) (jumps_calls ⟨d, 12, c, b⟩ _)).mono ?_; rw [show jumps 12 = false from rfl]; rintro e w1 ⟨rfl, y, rfl⟩)
  go_loopw [118] (fun v w' => ∃ (j : Nat) (lv' fv' : Value) (s' : St), j ≤ c ∧ v = .int .i64 j ∧ Hid (loopR (B i hd) (c - j) s' = R) ∧ Hid (Mach E w' ⟨g, lv', fv'⟩ s') ∧ Hid (SOk E.t.length s') ∧ hd < s'.flt.length ∧ Hid (Step w ⟨g, lv, fv⟩ w' ⟨g, lv', fv'⟩) ∧ Hid (Blk w' w.heap.size 56 #[.int .i64 0, .int .i64 0])) (fun v _ => c - (intOf v).toNat)
  case atStart => exact ⟨0, lv, fv, s, Nat.zero_le _, rfl, Lib.hid HR.out.symm, Lib.hid (HM.out y), HSO, h2, Lib.hid (HST.out y), Lib.hid (HBK.out y)⟩
  case round =>
    obtain ⟨j, lv2, fv2, s2, hj, rfl, hb, HM2, HS2, hd2, HT2, HB2⟩ := hrel
    clear gl y1 y4 ll l1 l2 l3 e0 e1 e2 q0 q1 q2 q3 qp
    by_cases hlt : j < c
    · have hgo := HGR.out s2 HS2.out hd2
      have hgr := loop_grow HGR.out (c - j - 1) s2 HS2.out hd2
      have hcj : c - j - 1 + 1 = c - j := by omega
      rw [hcj, hb.out] at hgr
      have hcal := HRb.out i hd s2 ⟨g, lv2, fv2⟩ wr hok HM2.out HS2.out h1 hd2 (by have := hgr.log.length_le; omega) (by have := hgr.flt.length_le; omega)
      obtain ⟨x, hx⟩ : ∃ x, x = B i hd s2 := ⟨_, rfl⟩
      rw [← hx] at hcal hgr hgo
      obtain ⟨⟨xe, xv⟩, s3⟩ := x
      have HXX := Lib.hid hx
      have HC := Lib.hid hcal
      have HGO := Lib.hid hgo
      have hd3 : hd < s3.flt.length := by have := hgo.2.1.flt.length_le; simp only [] at this; omega
      have HCJ := Lib.hid hcj
      clear hx hcal hgo hgr hcj
      by_cases he1 : xe = 1
      · subst he1
        go_wp2_with (go_at_call 86; refine HC.out.mono ?_; rintro e w3 ⟨⟨g3, lv3, fv3⟩, rfl, hm3, hs3, hg3⟩; simp only [] at hg3; replace hg3 := hg3.symm; subst hg3; have HM3 := Lib.hid hm3; have HS3 := Lib.hid (HT2.out.trans hs3); have HB3 := Lib.hid (hs3.blkOf HM2.out HB2.out (by decide) (by decide) (by decide)); have a0 := HB3.out.cell 0; have a1 := HB3.out.cell 1; have a2 := HB3.out.frozen 0; have a3 := HB3.out.frozen 1; have a4 := HB3.out.lt; clear hm3 hs3)
        refine bodyPost_ret (results_cell_row rfl _ _ w.heap.size 56 #[.int .i64 1, .int .i64 xv] (0, 0) _ rfl ((HB3.out.set2 _ _).alloc _) Try.underlying56 rfl (by kernel_rfl)) rfl ?_
        have e : R = (⟨1, xv⟩, s3) := by rw [← hb.out, ← HCJ.out, loopR_ret (by rw [← HXX.out]; exact .inl rfl), ← HXX.out]
        exact (mret_of HM3.out HS3.out rfl HB3.out hgl H.out.ge (by rw [e]) (by rw [e]) (by rw [e])).alloc _
      by_cases he2 : xe = 2
      · subst he2
        go_wp2_with (go_at_call 86; refine HC.out.mono ?_; rintro e w3 ⟨⟨g3, lv3, fv3⟩, rfl, hm3, hs3, hg3⟩; simp only [] at hg3; replace hg3 := hg3.symm; subst hg3; have HM3 := Lib.hid hm3; have HS3 := Lib.hid (HT2.out.trans hs3); have HB3 := Lib.hid (hs3.blkOf HM2.out HB2.out (by decide) (by decide) (by decide)); have a0 := HB3.out.cell 0; have a1 := HB3.out.cell 1; have a2 := HB3.out.frozen 0; have a3 := HB3.out.frozen 1; have a4 := HB3.out.lt; clear hm3 hs3)
        refine bodyPost_ret (results_cell_row rfl _ _ w.heap.size 56 #[.int .i64 2, .int .i64 xv] (0, 0) _ rfl ((HB3.out.set2 _ _).alloc _) Try.underlying56 rfl (by kernel_rfl)) rfl ?_
        have e : R = (⟨2, xv⟩, s3) := by rw [← hb.out, ← HCJ.out, loopR_ret (by rw [← HXX.out]; exact .inr rfl), ← HXX.out]
        exact (mret_of HM3.out HS3.out rfl HB3.out hgl H.out.ge (by rw [e]) (by rw [e]) (by rw [e])).alloc _
      by_cases he3 : xe = 3
      · subst he3
        go_wp2_with (go_at_call 86; refine HC.out.mono ?_; rintro e w3 ⟨⟨g3, lv3, fv3⟩, rfl, hm3, hs3, hg3⟩; simp only [] at hg3; replace hg3 := hg3.symm; subst hg3; have HM3 := Lib.hid hm3; have HS3 := Lib.hid (HT2.out.trans hs3); have HB3 := Lib.hid (hs3.blkOf HM2.out HB2.out (by decide) (by decide) (by decide)); have a0 := HB3.out.cell 0; have a1 := HB3.out.cell 1; have a2 := HB3.out.frozen 0; have a3 := HB3.out.frozen 1; have a4 := HB3.out.lt; clear hm3 hs3)
        refine bodyPost_ret (results_cell_row rfl _ _ w.heap.size 56 #[.int .i64 0, .int .i64 0] (0, 0) _ rfl ((HB3.out.set2 _ _).alloc _) Try.underlying56 rfl (by kernel_rfl)) rfl ?_
        have e : R = (⟨0, 0⟩, s3) := by rw [← hb.out, ← HCJ.out, loopR_brk (by rw [← HXX.out]), ← HXX.out]
        exact (mret_of HM3.out HS3.out rfl HB3.out hgl H.out.ge (by rw [e]) (by rw [e]) (by rw [e])).alloc _
      have he1' : (xe == 1) = false := beq_eq_false_iff_ne.mpr he1
      have he2' : (xe == 2) = false := beq_eq_false_iff_ne.mpr he2
      have he3' : (xe == 3) = false := beq_eq_false_iff_ne.mpr he3
      go_wp2_with (go_at_call 86; refine HC.out.mono ?_; rintro e w3 ⟨⟨g3, lv3, fv3⟩, rfl, hm3, hs3, hg3⟩; simp only [] at hg3; replace hg3 := hg3.symm; subst hg3; have HM3 := Lib.hid hm3; have HS3 := Lib.hid (HT2.out.trans hs3); have HB3 := Lib.hid (hs3.blkOf HM2.out HB2.out (by decide) (by decide) (by decide)); have a0 := HB3.out.cell 0; have a1 := HB3.out.cell 1; have a2 := HB3.out.frozen 0; have a3 := HB3.out.frozen 1; have a4 := HB3.out.lt; clear hm3 hs3)
      go_roundw
      case rel => exact ⟨j + 1, lv3, fv3, s3, by omega, by go_num, Lib.hid (by rw [← hb.out, ← HCJ.out, loopR_go (by rw [← HXX.out]; exact he1) (by rw [← HXX.out]; exact he2) (by rw [← HXX.out]; exact he3), ← HXX.out]; rfl), Lib.hid (HM3.out.alloc _), Lib.hid HGO.out.1, hd3, Lib.hid (HS3.out.alloc _), Lib.hid (HB3.out.alloc _)⟩
      case measure => simp [intOf]; omega
    · have a0 := HB2.out.cell 0
      have a1 := HB2.out.cell 1
      have a2 := HB2.out.frozen 0
      have a3 := HB2.out.frozen 1
      have a4 := HB2.out.lt
      go_wp2
      refine bodyPost_ret (results_cell_row rfl _ _ w.heap.size 56 #[.int .i64 0, .int .i64 0] (0, 0) _ rfl (HB2.out.set2 _ _) Try.underlying56 rfl (by kernel_rfl)) rfl ?_
      have e : R = (⟨0, 0⟩, s2) := by rw [← hb.out, show c - j = 0 from by omega]; rfl
      exact mret_of HM2.out HT2.out rfl HB2.out hgl H.out.ge (by rw [e]) (by rw [e]) (by rw [e])
end Go.Proofs.Ytihjakpedbaokaa.K
