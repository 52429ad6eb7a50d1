/- Walks: a line of a program that raises (impl: machine.line). -/
import Derived.Test.YtihjakpedbaokaaC05
namespace Go.Proofs.Ytihjakpedbaokaa.K
open Go Go.RowKit

set_option maxHeartbeats 4000000 in
set_option maxRecDepth 100000 in
theorem line_2 (E : Env) (B : Ru) (i : Nat) (hd : Int) (s : St) (m : M) (w : World) (hi : i < E.p.length) (h : Mach E w m s) (hk : (ln E.p i).kind = 2) (hF : FOk s.flt) (hhd : hd < s.flt.length) (hn : s.flt.length ≤ 1099511627775) :
    Calls Try.prog 55 #[.pointer (some ⟨m.g, 0, none⟩), .int .i64 i, .int .i64 hd] w (MRet E w m (lineR E.p B i hd s)) := by
  have HF := Lib.hid hF
  clear hF
  by_cases hf : s.first < 0
  · obtain ⟨g, lv, fv⟩ := m
    obtain ⟨hgl, -, cp, cl, -, c1, f2, -⟩ := h.face
    obtain ⟨ad, hA, hab, g0, g1, g2, g3⟩ := h.p.line hi
    have HA := Lib.hid hA
    rw [hA] at cp
    obtain ⟨x, hx⟩ : ∃ x, x = ln E.p i := ⟨_, rfl⟩
    rw [← hx] at g0 g1 g2 g3 hk
    obtain ⟨d, k, a, b⟩ := x
    simp only [] at g0 g1 g2 g3 hk
    subst hk
    have HX := Lib.hid hx
    have H := Lib.hid h
    obtain ⟨n, hn⟩ : ∃ n, n = E.p.length := ⟨_, rfl⟩
    rw [← hn] at cp hi
    have HN := Lib.hid hn
    clear hA hx h hn
    have q0 := cell_alloc' (.cells #[.int .i64 0, .int .i64 0] 56) g0
    have q1 := cell_alloc' (.cells #[.int .i64 0, .int .i64 0] 56) g1
    have q2 := cell_alloc' (.cells #[.int .i64 0, .int .i64 0] 56) g2
    have q3 := cell_alloc' (.cells #[.int .i64 0, .int .i64 0] 56) g3
    have qp := cell_alloc' (.cells #[.int .i64 0, .int .i64 0] 56) cp
    have HM : Hid (∀ y : Ext ((w.alloc (.cells #[.int .i64 0, .int .i64 0] 56)).alloc (.cells #[.int .i64 d, .int .i64 2, .int .i64 a, .int .i64 b] 37)), Mach E y.1 ⟨g, lv, fv⟩ s) := Lib.hid fun y => ((H.out.alloc _).alloc _).ext y
    have gl : ∀ y : Ext ((w.alloc (.cells #[.int .i64 0, .int .i64 0] 56)).alloc (.cells #[.int .i64 d, .int .i64 2, .int .i64 a, .int .i64 b] 37)), g < y.1.heap.size := fun y => y.lt (by simp; omega)
    have y1 : ∀ y : Ext ((w.alloc (.cells #[.int .i64 0, .int .i64 0] 56)).alloc (.cells #[.int .i64 d, .int .i64 2, .int .i64 a, .int .i64 b] 37)), y.1.cell? ⟨g, 4, none⟩ = some (.int .i64 s.first) := fun y => (HM.out y).face.c1
    have y4 : ∀ y : Ext ((w.alloc (.cells #[.int .i64 0, .int .i64 0] 56)).alloc (.cells #[.int .i64 d, .int .i64 2, .int .i64 a, .int .i64 b] 37)), y.1.frozen? ⟨g, 4, none⟩ = false := fun y => (HM.out y).face.f4
    have HBK : Hid (∀ y : Ext ((w.alloc (.cells #[.int .i64 0, .int .i64 0] 56)).alloc (.cells #[.int .i64 d, .int .i64 2, .int .i64 a, .int .i64 b] 37)), Blk y.1 w.heap.size 56 #[.int .i64 0, .int .i64 0]) := Lib.hid fun y => ((Blk.new w _ _).alloc _).ext y
    have HBL : Hid (∀ y : Ext ((w.alloc (.cells #[.int .i64 0, .int .i64 0] 56)).alloc (.cells #[.int .i64 d, .int .i64 2, .int .i64 a, .int .i64 b] 37)), Blk y.1 (w.heap.size + 1) 37 #[.int .i64 d, .int .i64 2, .int .i64 a, .int .i64 b]) := Lib.hid fun y => (by have := Blk.new (w.alloc (.cells #[.int .i64 0, .int .i64 0] 56)) 37 #[.int .i64 d, .int .i64 2, .int .i64 a, .int .i64 b]; rw [show (w.alloc (.cells #[.int .i64 0, .int .i64 0] 56)).heap.size = w.heap.size + 1 from by simp] at this; exact this.ext y)
    have HST : Hid (∀ y : Ext ((w.alloc (.cells #[.int .i64 0, .int .i64 0] 56)).alloc (.cells #[.int .i64 d, .int .i64 2, .int .i64 a, .int .i64 b] 37)), Step w ⟨g, lv, fv⟩ y.1 ⟨g, lv, fv⟩) := Lib.hid fun y => (((Step.refl w _).alloc _).alloc _).trans (Step.ext _ y)
    have ll : ∀ y : Ext ((w.alloc (.cells #[.int .i64 0, .int .i64 0] 56)).alloc (.cells #[.int .i64 d, .int .i64 2, .int .i64 a, .int .i64 b] 37)), w.heap.size + 1 < y.1.heap.size := fun y => (HBL.out y).lt
    have l1 : ∀ y : Ext ((w.alloc (.cells #[.int .i64 0, .int .i64 0] 56)).alloc (.cells #[.int .i64 d, .int .i64 2, .int .i64 a, .int .i64 b] 37)), y.1.cell? ⟨w.heap.size + 1, 1, none⟩ = some (.int .i64 2) := fun y => (HBL.out y).cell 1
    have l2 : ∀ y : Ext ((w.alloc (.cells #[.int .i64 0, .int .i64 0] 56)).alloc (.cells #[.int .i64 d, .int .i64 2, .int .i64 a, .int .i64 b] 37)), y.1.cell? ⟨w.heap.size + 1, 2, none⟩ = some (.int .i64 a) := fun y => (HBL.out y).cell 2
    have l3 : ∀ y : Ext ((w.alloc (.cells #[.int .i64 0, .int .i64 0] 56)).alloc (.cells #[.int .i64 d, .int .i64 2, .int .i64 a, .int .i64 b] 37)), y.1.cell? ⟨w.heap.size + 1, 3, none⟩ = some (.int .i64 b) := fun y => (HBL.out y).cell 3
    have e0 : ∀ (y : Ext ((w.alloc (.cells #[.int .i64 0, .int .i64 0] 56)).alloc (.cells #[.int .i64 d, .int .i64 2, .int .i64 a, .int .i64 b] 37))) (j : Nat), y.1.frozen? ⟨w.heap.size, j, none⟩ = false := fun y j => (HBK.out y).frozen j
    have e1 : ∀ (y : Ext ((w.alloc (.cells #[.int .i64 0, .int .i64 0] 56)).alloc (.cells #[.int .i64 d, .int .i64 2, .int .i64 a, .int .i64 b] 37))), y.1.cell? ⟨w.heap.size, 0, none⟩ = some (.int .i64 0) := fun y => (HBK.out y).cell 0
    have e2 : ∀ (y : Ext ((w.alloc (.cells #[.int .i64 0, .int .i64 0] 56)).alloc (.cells #[.int .i64 d, .int .i64 2, .int .i64 a, .int .i64 b] 37))), y.1.cell? ⟨w.heap.size, 1, none⟩ = some (.int .i64 0) := fun y => (HBK.out y).cell 1
    have HMM : Hid (∀ y : Ext ((w.alloc (.cells #[.int .i64 0, .int .i64 0] 56)).alloc (.cells #[.int .i64 d, .int .i64 2, .int .i64 a, .int .i64 b] 37)), Mach E (y.1.setCell ⟨g, 4, none⟩ (.int .i64 i)) ⟨g, lv, fv⟩ { s with first := i }) := Lib.hid fun y => (HM.out y).setFirst i
    have HBM : Hid (∀ y : Ext ((w.alloc (.cells #[.int .i64 0, .int .i64 0] 56)).alloc (.cells #[.int .i64 d, .int .i64 2, .int .i64 a, .int .i64 b] 37)), Blk (y.1.setCell ⟨g, 4, none⟩ (.int .i64 i)) w.heap.size 56 #[.int .i64 0, .int .i64 0]) := Lib.hid fun y => Blk.far (HBK.out y) (by simp; omega) _
    have HLM : Hid (∀ y : Ext ((w.alloc (.cells #[.int .i64 0, .int .i64 0] 56)).alloc (.cells #[.int .i64 d, .int .i64 2, .int .i64 a, .int .i64 b] 37)), Blk (y.1.setCell ⟨g, 4, none⟩ (.int .i64 i)) (w.heap.size + 1) 37 #[.int .i64 d, .int .i64 2, .int .i64 a, .int .i64 b]) := Lib.hid fun y => Blk.far (HBL.out y) (by simp; omega) _
    have HSM : Hid (∀ y : Ext ((w.alloc (.cells #[.int .i64 0, .int .i64 0] 56)).alloc (.cells #[.int .i64 d, .int .i64 2, .int .i64 a, .int .i64 b] 37)), Step w ⟨g, lv, fv⟩ (y.1.setCell ⟨g, 4, none⟩ (.int .i64 i)) ⟨g, lv, fv⟩) := Lib.hid fun y => (HST.out y).setCell (.inr (.inl rfl)) _
    have m1 : ∀ y : Ext ((w.alloc (.cells #[.int .i64 0, .int .i64 0] 56)).alloc (.cells #[.int .i64 d, .int .i64 2, .int .i64 a, .int .i64 b] 37)), (y.1.setCell ⟨g, 4, none⟩ (.int .i64 i)).cell? ⟨w.heap.size + 1, 1, none⟩ = some (.int .i64 2) := fun y => (HLM.out y).cell 1
    have m2 : ∀ y : Ext ((w.alloc (.cells #[.int .i64 0, .int .i64 0] 56)).alloc (.cells #[.int .i64 d, .int .i64 2, .int .i64 a, .int .i64 b] 37)), (y.1.setCell ⟨g, 4, none⟩ (.int .i64 i)).cell? ⟨w.heap.size + 1, 2, none⟩ = some (.int .i64 a) := fun y => (HLM.out y).cell 2
    have m3 : ∀ y : Ext ((w.alloc (.cells #[.int .i64 0, .int .i64 0] 56)).alloc (.cells #[.int .i64 d, .int .i64 2, .int .i64 a, .int .i64 b] 37)), (y.1.setCell ⟨g, 4, none⟩ (.int .i64 i)).cell? ⟨w.heap.size + 1, 3, none⟩ = some (.int .i64 b) := fun y => (HLM.out y).cell 3
    have m4 : ∀ (y : Ext ((w.alloc (.cells #[.int .i64 0, .int .i64 0] 56)).alloc (.cells #[.int .i64 d, .int .i64 2, .int .i64 a, .int .i64 b] 37))) (j : Nat), (y.1.setCell ⟨g, 4, none⟩ (.int .i64 i)).frozen? ⟨w.heap.size, j, none⟩ = false := fun y j => (HBM.out y).frozen j
    have m5 : ∀ (y : Ext ((w.alloc (.cells #[.int .i64 0, .int .i64 0] 56)).alloc (.cells #[.int .i64 d, .int .i64 2, .int .i64 a, .int .i64 b] 37))), (y.1.setCell ⟨g, 4, none⟩ (.int .i64 i)).cell? ⟨w.heap.size, 0, none⟩ = some (.int .i64 0) := fun y => (HBM.out y).cell 0
    have m6 : ∀ (y : Ext ((w.alloc (.cells #[.int .i64 0, .int .i64 0] 56)).alloc (.cells #[.int .i64 d, .int .i64 2, .int .i64 a, .int .i64 b] 37))), (y.1.setCell ⟨g, 4, none⟩ (.int .i64 i)).cell? ⟨w.heap.size, 1, none⟩ = some (.int .i64 0) := fun y => (HBM.out y).cell 1
    have hf' : decide (s.first < 0) = true := decide_eq_true hf
    clear g0 g1 g2 g3 cp cl c1 f2
    go_enter Try.func55, Try.ntmps55
    go_wp2_with (first
      | (go_at_call 88; refine (calls_ext0 (W := ((w.alloc (.cells #[.int .i64 0, .int .i64 0] 56)).alloc (.cells #[.int .i64 d, .int .i64 2, .int .i64 a, .int .i64 b] 37))) (jumps_calls ⟨d, 2, a, b⟩ _)).mono ?_; rw [show jumps 2 = true from rfl]; rintro e w1 ⟨rfl, y, rfl⟩)
      | (go_at_call 89; refine (raise_calls E ⟨g, lv, fv⟩ { s with first := i } a b hd (y.1.setCell ⟨g, 4, none⟩ (.int .i64 i)) (HMM.out y) HF.out hhd hn).mono ?_; rintro e w3 ⟨⟨g3, lv3, fv3⟩, rfl, hm3, hs3, hg3⟩; simp only [] at hg3; replace hg3 := hg3.symm; subst hg3; have hb3 := hs3.blkOf (HMM.out y) (HBM.out y) (by decide) (by decide) (by decide); have c0 := hb3.cell 0; have c1 := hb3.cell 1; have c2 := hb3.frozen 0; have c3 := hb3.frozen 1; have c4 := hb3.lt; have HM3 := Lib.hid hm3; have HS3 := Lib.hid ((HSM.out y).trans hs3); have HB3 := Lib.hid hb3; clear hm3 hs3 hb3))
    refine bodyPost_ret (results_cell_row rfl _ _ w.heap.size 56 #[.int .i64 2, .int .i64 s.flt.length] (0, 0) _ rfl (HB3.out.set2 _ _) Try.underlying56 rfl (by kernel_rfl)) rfl ?_
    have e : lineR E.p B i hd s = (⟨2, s.flt.length⟩, toss { s with first := i } a b hd) := by rw [lineR_2 HX.out.symm, markR_yes HX.out.symm rfl hf]
    exact mret_of HM3.out HS3.out rfl HB3.out hgl H.out.ge (by rw [e]; rfl) (by rw [e]) (by rw [e])
  · obtain ⟨g, lv, fv⟩ := m
    obtain ⟨hgl, -, cp, cl, -, c1, f2, -⟩ := h.face
    obtain ⟨ad, hA, hab, g0, g1, g2, g3⟩ := h.p.line hi
    have HA := Lib.hid hA
    rw [hA] at cp
    obtain ⟨x, hx⟩ : ∃ x, x = ln E.p i := ⟨_, rfl⟩
    rw [← hx] at g0 g1 g2 g3 hk
    obtain ⟨d, k, a, b⟩ := x
    simp only [] at g0 g1 g2 g3 hk
    subst hk
    have HX := Lib.hid hx
    have H := Lib.hid h
    obtain ⟨n, hn⟩ : ∃ n, n = E.p.length := ⟨_, rfl⟩
    rw [← hn] at cp hi
    have HN := Lib.hid hn
    clear hA hx h hn
    have q0 := cell_alloc' (.cells #[.int .i64 0, .int .i64 0] 56) g0
    have q1 := cell_alloc' (.cells #[.int .i64 0, .int .i64 0] 56) g1
    have q2 := cell_alloc' (.cells #[.int .i64 0, .int .i64 0] 56) g2
    have q3 := cell_alloc' (.cells #[.int .i64 0, .int .i64 0] 56) g3
    have qp := cell_alloc' (.cells #[.int .i64 0, .int .i64 0] 56) cp
    have HM : Hid (∀ y : Ext ((w.alloc (.cells #[.int .i64 0, .int .i64 0] 56)).alloc (.cells #[.int .i64 d, .int .i64 2, .int .i64 a, .int .i64 b] 37)), Mach E y.1 ⟨g, lv, fv⟩ s) := Lib.hid fun y => ((H.out.alloc _).alloc _).ext y
    have gl : ∀ y : Ext ((w.alloc (.cells #[.int .i64 0, .int .i64 0] 56)).alloc (.cells #[.int .i64 d, .int .i64 2, .int .i64 a, .int .i64 b] 37)), g < y.1.heap.size := fun y => y.lt (by simp; omega)
    have y1 : ∀ y : Ext ((w.alloc (.cells #[.int .i64 0, .int .i64 0] 56)).alloc (.cells #[.int .i64 d, .int .i64 2, .int .i64 a, .int .i64 b] 37)), y.1.cell? ⟨g, 4, none⟩ = some (.int .i64 s.first) := fun y => (HM.out y).face.c1
    have y4 : ∀ y : Ext ((w.alloc (.cells #[.int .i64 0, .int .i64 0] 56)).alloc (.cells #[.int .i64 d, .int .i64 2, .int .i64 a, .int .i64 b] 37)), y.1.frozen? ⟨g, 4, none⟩ = false := fun y => (HM.out y).face.f4
    have HBK : Hid (∀ y : Ext ((w.alloc (.cells #[.int .i64 0, .int .i64 0] 56)).alloc (.cells #[.int .i64 d, .int .i64 2, .int .i64 a, .int .i64 b] 37)), Blk y.1 w.heap.size 56 #[.int .i64 0, .int .i64 0]) := Lib.hid fun y => ((Blk.new w _ _).alloc _).ext y
    have HBL : Hid (∀ y : Ext ((w.alloc (.cells #[.int .i64 0, .int .i64 0] 56)).alloc (.cells #[.int .i64 d, .int .i64 2, .int .i64 a, .int .i64 b] 37)), Blk y.1 (w.heap.size + 1) 37 #[.int .i64 d, .int .i64 2, .int .i64 a, .int .i64 b]) := Lib.hid fun y => (by have := Blk.new (w.alloc (.cells #[.int .i64 0, .int .i64 0] 56)) 37 #[.int .i64 d, .int .i64 2, .int .i64 a, .int .i64 b]; rw [show (w.alloc (.cells #[.int .i64 0, .int .i64 0] 56)).heap.size = w.heap.size + 1 from by simp] at this; exact this.ext y)
    have HST : Hid (∀ y : Ext ((w.alloc (.cells #[.int .i64 0, .int .i64 0] 56)).alloc (.cells #[.int .i64 d, .int .i64 2, .int .i64 a, .int .i64 b] 37)), Step w ⟨g, lv, fv⟩ y.1 ⟨g, lv, fv⟩) := Lib.hid fun y => (((Step.refl w _).alloc _).alloc _).trans (Step.ext _ y)
    have ll : ∀ y : Ext ((w.alloc (.cells #[.int .i64 0, .int .i64 0] 56)).alloc (.cells #[.int .i64 d, .int .i64 2, .int .i64 a, .int .i64 b] 37)), w.heap.size + 1 < y.1.heap.size := fun y => (HBL.out y).lt
    have l1 : ∀ y : Ext ((w.alloc (.cells #[.int .i64 0, .int .i64 0] 56)).alloc (.cells #[.int .i64 d, .int .i64 2, .int .i64 a, .int .i64 b] 37)), y.1.cell? ⟨w.heap.size + 1, 1, none⟩ = some (.int .i64 2) := fun y => (HBL.out y).cell 1
    have l2 : ∀ y : Ext ((w.alloc (.cells #[.int .i64 0, .int .i64 0] 56)).alloc (.cells #[.int .i64 d, .int .i64 2, .int .i64 a, .int .i64 b] 37)), y.1.cell? ⟨w.heap.size + 1, 2, none⟩ = some (.int .i64 a) := fun y => (HBL.out y).cell 2
    have l3 : ∀ y : Ext ((w.alloc (.cells #[.int .i64 0, .int .i64 0] 56)).alloc (.cells #[.int .i64 d, .int .i64 2, .int .i64 a, .int .i64 b] 37)), y.1.cell? ⟨w.heap.size + 1, 3, none⟩ = some (.int .i64 b) := fun y => (HBL.out y).cell 3
    have e0 : ∀ (y : Ext ((w.alloc (.cells #[.int .i64 0, .int .i64 0] 56)).alloc (.cells #[.int .i64 d, .int .i64 2, .int .i64 a, .int .i64 b] 37))) (j : Nat), y.1.frozen? ⟨w.heap.size, j, none⟩ = false := fun y j => (HBK.out y).frozen j
    have e1 : ∀ (y : Ext ((w.alloc (.cells #[.int .i64 0, .int .i64 0] 56)).alloc (.cells #[.int .i64 d, .int .i64 2, .int .i64 a, .int .i64 b] 37))), y.1.cell? ⟨w.heap.size, 0, none⟩ = some (.int .i64 0) := fun y => (HBK.out y).cell 0
    have e2 : ∀ (y : Ext ((w.alloc (.cells #[.int .i64 0, .int .i64 0] 56)).alloc (.cells #[.int .i64 d, .int .i64 2, .int .i64 a, .int .i64 b] 37))), y.1.cell? ⟨w.heap.size, 1, none⟩ = some (.int .i64 0) := fun y => (HBK.out y).cell 1
    have hf' : decide (s.first < 0) = false := decide_eq_false hf
    clear g0 g1 g2 g3 cp cl c1 f2
    go_enter Try.func55, Try.ntmps55
    go_wp2_with (first
      | (go_at_call 88; refine (calls_ext0 (W := ((w.alloc (.cells #[.int .i64 0, .int .i64 0] 56)).alloc (.cells #[.int .i64 d, .int .i64 2, .int .i64 a, .int .i64 b] 37))) (jumps_calls ⟨d, 2, a, b⟩ _)).mono ?_; rw [show jumps 2 = true from rfl]; rintro e w1 ⟨rfl, y, rfl⟩)
      | (go_at_call 89; refine (raise_calls E ⟨g, lv, fv⟩ s a b hd y.1 (HM.out y) HF.out hhd hn).mono ?_; rintro e w3 ⟨⟨g3, lv3, fv3⟩, rfl, hm3, hs3, hg3⟩; simp only [] at hg3; replace hg3 := hg3.symm; subst hg3; have hb3 := hs3.blkOf (HM.out y) (HBK.out y) (by decide) (by decide) (by decide); have c0 := hb3.cell 0; have c1 := hb3.cell 1; have c2 := hb3.frozen 0; have c3 := hb3.frozen 1; have c4 := hb3.lt; have HM3 := Lib.hid hm3; have HS3 := Lib.hid ((HST.out y).trans hs3); have HB3 := Lib.hid hb3; clear hm3 hs3 hb3))
    refine bodyPost_ret (results_cell_row rfl _ _ w.heap.size 56 #[.int .i64 2, .int .i64 s.flt.length] (0, 0) _ rfl (HB3.out.set2 _ _) Try.underlying56 rfl (by kernel_rfl)) rfl ?_
    have e : lineR E.p B i hd s = (⟨2, s.flt.length⟩, toss s a b hd) := by rw [lineR_2 HX.out.symm, markR_no HX.out.symm (by omega)]
    exact mret_of HM3.out HS3.out rfl HB3.out hgl H.out.ge (by rw [e]; rfl) (by rw [e]) (by rw [e])
set_option maxHeartbeats 4000000 in
set_option maxRecDepth 100000 in
theorem line_3y (E : Env) (B : Ru) (i : Nat) (hd : Int) (s : St) (m : M) (w : World) (hi : i < E.p.length) (h : Mach E w m s) (hk : (ln E.p i).kind = 3) (hF : FOk s.flt) (hhd : hd < s.flt.length) (hn : s.flt.length ≤ 1099511627775) (h0 : hd < 0) :
    Calls Try.prog 55 #[.pointer (some ⟨m.g, 0, none⟩), .int .i64 i, .int .i64 hd] w (MRet E w m (lineR E.p B i hd s)) := by
  have HF := Lib.hid hF
  clear hF
  by_cases hf : s.first < 0
  · obtain ⟨g, lv, fv⟩ := m
    obtain ⟨hgl, -, cp, cl, -, c1, f2, -⟩ := h.face
    obtain ⟨ad, hA, hab, g0, g1, g2, g3⟩ := h.p.line hi
    have HA := Lib.hid hA
    rw [hA] at cp
    obtain ⟨x, hx⟩ : ∃ x, x = ln E.p i := ⟨_, rfl⟩
    rw [← hx] at g0 g1 g2 g3 hk
    obtain ⟨d, k, a, b⟩ := x
    simp only [] at g0 g1 g2 g3 hk
    subst hk
    have HX := Lib.hid hx
    have H := Lib.hid h
    obtain ⟨n, hn⟩ : ∃ n, n = E.p.length := ⟨_, rfl⟩
    rw [← hn] at cp hi
    have HN := Lib.hid hn
    clear hA hx h hn
    have q0 := cell_alloc' (.cells #[.int .i64 0, .int .i64 0] 56) g0
    have q1 := cell_alloc' (.cells #[.int .i64 0, .int .i64 0] 56) g1
    have q2 := cell_alloc' (.cells #[.int .i64 0, .int .i64 0] 56) g2
    have q3 := cell_alloc' (.cells #[.int .i64 0, .int .i64 0] 56) g3
    have qp := cell_alloc' (.cells #[.int .i64 0, .int .i64 0] 56) cp
    have HM : Hid (∀ y : Ext ((w.alloc (.cells #[.int .i64 0, .int .i64 0] 56)).alloc (.cells #[.int .i64 d, .int .i64 3, .int .i64 a, .int .i64 b] 37)), Mach E y.1 ⟨g, lv, fv⟩ s) := Lib.hid fun y => ((H.out.alloc _).alloc _).ext y
    have gl : ∀ y : Ext ((w.alloc (.cells #[.int .i64 0, .int .i64 0] 56)).alloc (.cells #[.int .i64 d, .int .i64 3, .int .i64 a, .int .i64 b] 37)), g < y.1.heap.size := fun y => y.lt (by simp; omega)
    have y1 : ∀ y : Ext ((w.alloc (.cells #[.int .i64 0, .int .i64 0] 56)).alloc (.cells #[.int .i64 d, .int .i64 3, .int .i64 a, .int .i64 b] 37)), y.1.cell? ⟨g, 4, none⟩ = some (.int .i64 s.first) := fun y => (HM.out y).face.c1
    have y4 : ∀ y : Ext ((w.alloc (.cells #[.int .i64 0, .int .i64 0] 56)).alloc (.cells #[.int .i64 d, .int .i64 3, .int .i64 a, .int .i64 b] 37)), y.1.frozen? ⟨g, 4, none⟩ = false := fun y => (HM.out y).face.f4
    have HBK : Hid (∀ y : Ext ((w.alloc (.cells #[.int .i64 0, .int .i64 0] 56)).alloc (.cells #[.int .i64 d, .int .i64 3, .int .i64 a, .int .i64 b] 37)), Blk y.1 w.heap.size 56 #[.int .i64 0, .int .i64 0]) := Lib.hid fun y => ((Blk.new w _ _).alloc _).ext y
    have HBL : Hid (∀ y : Ext ((w.alloc (.cells #[.int .i64 0, .int .i64 0] 56)).alloc (.cells #[.int .i64 d, .int .i64 3, .int .i64 a, .int .i64 b] 37)), Blk y.1 (w.heap.size + 1) 37 #[.int .i64 d, .int .i64 3, .int .i64 a, .int .i64 b]) := Lib.hid fun y => (by have := Blk.new (w.alloc (.cells #[.int .i64 0, .int .i64 0] 56)) 37 #[.int .i64 d, .int .i64 3, .int .i64 a, .int .i64 b]; rw [show (w.alloc (.cells #[.int .i64 0, .int .i64 0] 56)).heap.size = w.heap.size + 1 from by simp] at this; exact this.ext y)
    have HST : Hid (∀ y : Ext ((w.alloc (.cells #[.int .i64 0, .int .i64 0] 56)).alloc (.cells #[.int .i64 d, .int .i64 3, .int .i64 a, .int .i64 b] 37)), Step w ⟨g, lv, fv⟩ y.1 ⟨g, lv, fv⟩) := Lib.hid fun y => (((Step.refl w _).alloc _).alloc _).trans (Step.ext _ y)
    have ll : ∀ y : Ext ((w.alloc (.cells #[.int .i64 0, .int .i64 0] 56)).alloc (.cells #[.int .i64 d, .int .i64 3, .int .i64 a, .int .i64 b] 37)), w.heap.size + 1 < y.1.heap.size := fun y => (HBL.out y).lt
    have l1 : ∀ y : Ext ((w.alloc (.cells #[.int .i64 0, .int .i64 0] 56)).alloc (.cells #[.int .i64 d, .int .i64 3, .int .i64 a, .int .i64 b] 37)), y.1.cell? ⟨w.heap.size + 1, 1, none⟩ = some (.int .i64 3) := fun y => (HBL.out y).cell 1
    have l2 : ∀ y : Ext ((w.alloc (.cells #[.int .i64 0, .int .i64 0] 56)).alloc (.cells #[.int .i64 d, .int .i64 3, .int .i64 a, .int .i64 b] 37)), y.1.cell? ⟨w.heap.size + 1, 2, none⟩ = some (.int .i64 a) := fun y => (HBL.out y).cell 2
    have l3 : ∀ y : Ext ((w.alloc (.cells #[.int .i64 0, .int .i64 0] 56)).alloc (.cells #[.int .i64 d, .int .i64 3, .int .i64 a, .int .i64 b] 37)), y.1.cell? ⟨w.heap.size + 1, 3, none⟩ = some (.int .i64 b) := fun y => (HBL.out y).cell 3
    have e0 : ∀ (y : Ext ((w.alloc (.cells #[.int .i64 0, .int .i64 0] 56)).alloc (.cells #[.int .i64 d, .int .i64 3, .int .i64 a, .int .i64 b] 37))) (j : Nat), y.1.frozen? ⟨w.heap.size, j, none⟩ = false := fun y j => (HBK.out y).frozen j
    have e1 : ∀ (y : Ext ((w.alloc (.cells #[.int .i64 0, .int .i64 0] 56)).alloc (.cells #[.int .i64 d, .int .i64 3, .int .i64 a, .int .i64 b] 37))), y.1.cell? ⟨w.heap.size, 0, none⟩ = some (.int .i64 0) := fun y => (HBK.out y).cell 0
    have e2 : ∀ (y : Ext ((w.alloc (.cells #[.int .i64 0, .int .i64 0] 56)).alloc (.cells #[.int .i64 d, .int .i64 3, .int .i64 a, .int .i64 b] 37))), y.1.cell? ⟨w.heap.size, 1, none⟩ = some (.int .i64 0) := fun y => (HBK.out y).cell 1
    have HMM : Hid (∀ y : Ext ((w.alloc (.cells #[.int .i64 0, .int .i64 0] 56)).alloc (.cells #[.int .i64 d, .int .i64 3, .int .i64 a, .int .i64 b] 37)), Mach E (y.1.setCell ⟨g, 4, none⟩ (.int .i64 i)) ⟨g, lv, fv⟩ { s with first := i }) := Lib.hid fun y => (HM.out y).setFirst i
    have HBM : Hid (∀ y : Ext ((w.alloc (.cells #[.int .i64 0, .int .i64 0] 56)).alloc (.cells #[.int .i64 d, .int .i64 3, .int .i64 a, .int .i64 b] 37)), Blk (y.1.setCell ⟨g, 4, none⟩ (.int .i64 i)) w.heap.size 56 #[.int .i64 0, .int .i64 0]) := Lib.hid fun y => Blk.far (HBK.out y) (by simp; omega) _
    have HLM : Hid (∀ y : Ext ((w.alloc (.cells #[.int .i64 0, .int .i64 0] 56)).alloc (.cells #[.int .i64 d, .int .i64 3, .int .i64 a, .int .i64 b] 37)), Blk (y.1.setCell ⟨g, 4, none⟩ (.int .i64 i)) (w.heap.size + 1) 37 #[.int .i64 d, .int .i64 3, .int .i64 a, .int .i64 b]) := Lib.hid fun y => Blk.far (HBL.out y) (by simp; omega) _
    have HSM : Hid (∀ y : Ext ((w.alloc (.cells #[.int .i64 0, .int .i64 0] 56)).alloc (.cells #[.int .i64 d, .int .i64 3, .int .i64 a, .int .i64 b] 37)), Step w ⟨g, lv, fv⟩ (y.1.setCell ⟨g, 4, none⟩ (.int .i64 i)) ⟨g, lv, fv⟩) := Lib.hid fun y => (HST.out y).setCell (.inr (.inl rfl)) _
    have m1 : ∀ y : Ext ((w.alloc (.cells #[.int .i64 0, .int .i64 0] 56)).alloc (.cells #[.int .i64 d, .int .i64 3, .int .i64 a, .int .i64 b] 37)), (y.1.setCell ⟨g, 4, none⟩ (.int .i64 i)).cell? ⟨w.heap.size + 1, 1, none⟩ = some (.int .i64 3) := fun y => (HLM.out y).cell 1
    have m2 : ∀ y : Ext ((w.alloc (.cells #[.int .i64 0, .int .i64 0] 56)).alloc (.cells #[.int .i64 d, .int .i64 3, .int .i64 a, .int .i64 b] 37)), (y.1.setCell ⟨g, 4, none⟩ (.int .i64 i)).cell? ⟨w.heap.size + 1, 2, none⟩ = some (.int .i64 a) := fun y => (HLM.out y).cell 2
    have m3 : ∀ y : Ext ((w.alloc (.cells #[.int .i64 0, .int .i64 0] 56)).alloc (.cells #[.int .i64 d, .int .i64 3, .int .i64 a, .int .i64 b] 37)), (y.1.setCell ⟨g, 4, none⟩ (.int .i64 i)).cell? ⟨w.heap.size + 1, 3, none⟩ = some (.int .i64 b) := fun y => (HLM.out y).cell 3
    have m4 : ∀ (y : Ext ((w.alloc (.cells #[.int .i64 0, .int .i64 0] 56)).alloc (.cells #[.int .i64 d, .int .i64 3, .int .i64 a, .int .i64 b] 37))) (j : Nat), (y.1.setCell ⟨g, 4, none⟩ (.int .i64 i)).frozen? ⟨w.heap.size, j, none⟩ = false := fun y j => (HBM.out y).frozen j
    have m5 : ∀ (y : Ext ((w.alloc (.cells #[.int .i64 0, .int .i64 0] 56)).alloc (.cells #[.int .i64 d, .int .i64 3, .int .i64 a, .int .i64 b] 37))), (y.1.setCell ⟨g, 4, none⟩ (.int .i64 i)).cell? ⟨w.heap.size, 0, none⟩ = some (.int .i64 0) := fun y => (HBM.out y).cell 0
    have m6 : ∀ (y : Ext ((w.alloc (.cells #[.int .i64 0, .int .i64 0] 56)).alloc (.cells #[.int .i64 d, .int .i64 3, .int .i64 a, .int .i64 b] 37))), (y.1.setCell ⟨g, 4, none⟩ (.int .i64 i)).cell? ⟨w.heap.size, 1, none⟩ = some (.int .i64 0) := fun y => (HBM.out y).cell 1
    have hf' : decide (s.first < 0) = true := decide_eq_true hf
    clear g0 g1 g2 g3 cp cl c1 f2
    go_enter Try.func55, Try.ntmps55
    have hd' : decide (hd < 0) = true := decide_eq_true h0
    go_wp2_with (first
      | (go_at_call 88; refine (calls_ext0 (W := ((w.alloc (.cells #[.int .i64 0, .int .i64 0] 56)).alloc (.cells #[.int .i64 d, .int .i64 3, .int .i64 a, .int .i64 b] 37))) (jumps_calls ⟨d, 3, a, b⟩ _)).mono ?_; rw [show jumps 3 = true from rfl]; rintro e w1 ⟨rfl, y, rfl⟩)
      | (go_at_call 89; refine (raise_calls E ⟨g, lv, fv⟩ { s with first := i } 0 0 (-1) (y.1.setCell ⟨g, 4, none⟩ (.int .i64 i)) (HMM.out y) HF.out (by show (-1 : Int) < (s.flt.length : Int); omega) hn).mono ?_; rintro e w3 ⟨⟨g3, lv3, fv3⟩, rfl, hm3, hs3, hg3⟩; simp only [] at hg3; replace hg3 := hg3.symm; subst hg3; have hb3 := hs3.blkOf (HMM.out y) (HBM.out y) (by decide) (by decide) (by decide); have c0 := hb3.cell 0; have c1 := hb3.cell 1; have c2 := hb3.frozen 0; have c3 := hb3.frozen 1; have c4 := hb3.lt; have HM3 := Lib.hid hm3; have HS3 := Lib.hid ((HSM.out y).trans hs3); have HB3 := Lib.hid hb3; clear hm3 hs3 hb3))
    refine bodyPost_ret (results_cell_row rfl _ _ w.heap.size 56 #[.int .i64 2, .int .i64 s.flt.length] (0, 0) _ rfl (HB3.out.set2 _ _) Try.underlying56 rfl (by kernel_rfl)) rfl ?_
    have e : lineR E.p B i hd s = (⟨2, s.flt.length⟩, toss { s with first := i } 0 0 (-1)) := by rw [lineR_3y HX.out.symm (by omega), markR_yes HX.out.symm rfl hf]
    exact mret_of HM3.out HS3.out rfl HB3.out hgl H.out.ge (by rw [e]; rfl) (by rw [e]) (by rw [e])
  · obtain ⟨g, lv, fv⟩ := m
    obtain ⟨hgl, -, cp, cl, -, c1, f2, -⟩ := h.face
    obtain ⟨ad, hA, hab, g0, g1, g2, g3⟩ := h.p.line hi
    have HA := Lib.hid hA
    rw [hA] at cp
    obtain ⟨x, hx⟩ : ∃ x, x = ln E.p i := ⟨_, rfl⟩
    rw [← hx] at g0 g1 g2 g3 hk
    obtain ⟨d, k, a, b⟩ := x
    simp only [] at g0 g1 g2 g3 hk
    subst hk
    have HX := Lib.hid hx
    have H := Lib.hid h
    obtain ⟨n, hn⟩ : ∃ n, n = E.p.length := ⟨_, rfl⟩
    rw [← hn] at cp hi
    have HN := Lib.hid hn
    clear hA hx h hn
    have q0 := cell_alloc' (.cells #[.int .i64 0, .int .i64 0] 56) g0
    have q1 := cell_alloc' (.cells #[.int .i64 0, .int .i64 0] 56) g1
    have q2 := cell_alloc' (.cells #[.int .i64 0, .int .i64 0] 56) g2
    have q3 := cell_alloc' (.cells #[.int .i64 0, .int .i64 0] 56) g3
    have qp := cell_alloc' (.cells #[.int .i64 0, .int .i64 0] 56) cp
    have HM : Hid (∀ y : Ext ((w.alloc (.cells #[.int .i64 0, .int .i64 0] 56)).alloc (.cells #[.int .i64 d, .int .i64 3, .int .i64 a, .int .i64 b] 37)), Mach E y.1 ⟨g, lv, fv⟩ s) := Lib.hid fun y => ((H.out.alloc _).alloc _).ext y
    have gl : ∀ y : Ext ((w.alloc (.cells #[.int .i64 0, .int .i64 0] 56)).alloc (.cells #[.int .i64 d, .int .i64 3, .int .i64 a, .int .i64 b] 37)), g < y.1.heap.size := fun y => y.lt (by simp; omega)
    have y1 : ∀ y : Ext ((w.alloc (.cells #[.int .i64 0, .int .i64 0] 56)).alloc (.cells #[.int .i64 d, .int .i64 3, .int .i64 a, .int .i64 b] 37)), y.1.cell? ⟨g, 4, none⟩ = some (.int .i64 s.first) := fun y => (HM.out y).face.c1
    have y4 : ∀ y : Ext ((w.alloc (.cells #[.int .i64 0, .int .i64 0] 56)).alloc (.cells #[.int .i64 d, .int .i64 3, .int .i64 a, .int .i64 b] 37)), y.1.frozen? ⟨g, 4, none⟩ = false := fun y => (HM.out y).face.f4
    have HBK : Hid (∀ y : Ext ((w.alloc (.cells #[.int .i64 0, .int .i64 0] 56)).alloc (.cells #[.int .i64 d, .int .i64 3, .int .i64 a, .int .i64 b] 37)), Blk y.1 w.heap.size 56 #[.int .i64 0, .int .i64 0]) := Lib.hid fun y => ((Blk.new w _ _).alloc _).ext y
    have HBL : Hid (∀ y : Ext ((w.alloc (.cells #[.int .i64 0, .int .i64 0] 56)).alloc (.cells #[.int .i64 d, .int .i64 3, .int .i64 a, .int .i64 b] 37)), Blk y.1 (w.heap.size + 1) 37 #[.int .i64 d, .int .i64 3, .int .i64 a, .int .i64 b]) := Lib.hid fun y => (by have := Blk.new (w.alloc (.cells #[.int .i64 0, .int .i64 0] 56)) 37 #[.int .i64 d, .int .i64 3, .int .i64 a, .int .i64 b]; rw [show (w.alloc (.cells #[.int .i64 0, .int .i64 0] 56)).heap.size = w.heap.size + 1 from by simp] at this; exact this.ext y)
    have HST : Hid (∀ y : Ext ((w.alloc (.cells #[.int .i64 0, .int .i64 0] 56)).alloc (.cells #[.int .i64 d, .int .i64 3, .int .i64 a, .int .i64 b] 37)), Step w ⟨g, lv, fv⟩ y.1 ⟨g, lv, fv⟩) := Lib.hid fun y => (((Step.refl w _).alloc _).alloc _).trans (Step.ext _ y)
    have ll : ∀ y : Ext ((w.alloc (.cells #[.int .i64 0, .int .i64 0] 56)).alloc (.cells #[.int .i64 d, .int .i64 3, .int .i64 a, .int .i64 b] 37)), w.heap.size + 1 < y.1.heap.size := fun y => (HBL.out y).lt
    have l1 : ∀ y : Ext ((w.alloc (.cells #[.int .i64 0, .int .i64 0] 56)).alloc (.cells #[.int .i64 d, .int .i64 3, .int .i64 a, .int .i64 b] 37)), y.1.cell? ⟨w.heap.size + 1, 1, none⟩ = some (.int .i64 3) := fun y => (HBL.out y).cell 1
    have l2 : ∀ y : Ext ((w.alloc (.cells #[.int .i64 0, .int .i64 0] 56)).alloc (.cells #[.int .i64 d, .int .i64 3, .int .i64 a, .int .i64 b] 37)), y.1.cell? ⟨w.heap.size + 1, 2, none⟩ = some (.int .i64 a) := fun y => (HBL.out y).cell 2
    have l3 : ∀ y : Ext ((w.alloc (.cells #[.int .i64 0, .int .i64 0] 56)).alloc (.cells #[.int .i64 d, .int .i64 3, .int .i64 a, .int .i64 b] 37)), y.1.cell? ⟨w.heap.size + 1, 3, none⟩ = some (.int .i64 b) := fun y => (HBL.out y).cell 3
    have e0 : ∀ (y : Ext ((w.alloc (.cells #[.int .i64 0, .int .i64 0] 56)).alloc (.cells #[.int .i64 d, .int .i64 3, .int .i64 a, .int .i64 b] 37))) (j : Nat), y.1.frozen? ⟨w.heap.size, j, none⟩ = false := fun y j => (HBK.out y).frozen j
    have e1 : ∀ (y : Ext ((w.alloc (.cells #[.int .i64 0, .int .i64 0] 56)).alloc (.cells #[.int .i64 d, .int .i64 3, .int .i64 a, .int .i64 b] 37))), y.1.cell? ⟨w.heap.size, 0, none⟩ = some (.int .i64 0) := fun y => (HBK.out y).cell 0
    have e2 : ∀ (y : Ext ((w.alloc (.cells #[.int .i64 0, .int .i64 0] 56)).alloc (.cells #[.int .i64 d, .int .i64 3, .int .i64 a, .int .i64 b] 37))), y.1.cell? ⟨w.heap.size, 1, none⟩ = some (.int .i64 0) := fun y => (HBK.out y).cell 1
    have hf' : decide (s.first < 0) = false := decide_eq_false hf
    clear g0 g1 g2 g3 cp cl c1 f2
    go_enter Try.func55, Try.ntmps55
    have hd' : decide (hd < 0) = true := decide_eq_true h0
    go_wp2_with (first
      | (go_at_call 88; refine (calls_ext0 (W := ((w.alloc (.cells #[.int .i64 0, .int .i64 0] 56)).alloc (.cells #[.int .i64 d, .int .i64 3, .int .i64 a, .int .i64 b] 37))) (jumps_calls ⟨d, 3, a, b⟩ _)).mono ?_; rw [show jumps 3 = true from rfl]; rintro e w1 ⟨rfl, y, rfl⟩)
      | (go_at_call 89; refine (raise_calls E ⟨g, lv, fv⟩ s 0 0 (-1) y.1 (HM.out y) HF.out (by show (-1 : Int) < (s.flt.length : Int); omega) hn).mono ?_; rintro e w3 ⟨⟨g3, lv3, fv3⟩, rfl, hm3, hs3, hg3⟩; simp only [] at hg3; replace hg3 := hg3.symm; subst hg3; have hb3 := hs3.blkOf (HM.out y) (HBK.out y) (by decide) (by decide) (by decide); have c0 := hb3.cell 0; have c1 := hb3.cell 1; have c2 := hb3.frozen 0; have c3 := hb3.frozen 1; have c4 := hb3.lt; have HM3 := Lib.hid hm3; have HS3 := Lib.hid ((HST.out y).trans hs3); have HB3 := Lib.hid hb3; clear hm3 hs3 hb3))
    refine bodyPost_ret (results_cell_row rfl _ _ w.heap.size 56 #[.int .i64 2, .int .i64 s.flt.length] (0, 0) _ rfl (HB3.out.set2 _ _) Try.underlying56 rfl (by kernel_rfl)) rfl ?_
    have e : lineR E.p B i hd s = (⟨2, s.flt.length⟩, toss s 0 0 (-1)) := by rw [lineR_3y HX.out.symm (by omega), markR_no HX.out.symm (by omega)]
    exact mret_of HM3.out HS3.out rfl HB3.out hgl H.out.ge (by rw [e]; rfl) (by rw [e]) (by rw [e])
set_option maxHeartbeats 4000000 in
set_option maxRecDepth 100000 in
theorem line_3n (E : Env) (B : Ru) (i : Nat) (hd : Int) (s : St) (m : M) (w : World) (hi : i < E.p.length) (h : Mach E w m s) (hk : (ln E.p i).kind = 3) (hF : FOk s.flt) (hhd : hd < s.flt.length) (hn : s.flt.length ≤ 1099511627776) (h0 : ¬ hd < 0) :
    Calls Try.prog 55 #[.pointer (some ⟨m.g, 0, none⟩), .int .i64 i, .int .i64 hd] w (MRet E w m (lineR E.p B i hd s)) := by
  have HF := Lib.hid hF
  clear hF
  by_cases hf : s.first < 0
  · obtain ⟨g, lv, fv⟩ := m
    obtain ⟨hgl, -, cp, cl, -, c1, f2, -⟩ := h.face
    obtain ⟨ad, hA, hab, g0, g1, g2, g3⟩ := h.p.line hi
    have HA := Lib.hid hA
    rw [hA] at cp
    obtain ⟨x, hx⟩ : ∃ x, x = ln E.p i := ⟨_, rfl⟩
    rw [← hx] at g0 g1 g2 g3 hk
    obtain ⟨d, k, a, b⟩ := x
    simp only [] at g0 g1 g2 g3 hk
    subst hk
    have HX := Lib.hid hx
    have H := Lib.hid h
    obtain ⟨n, hn⟩ : ∃ n, n = E.p.length := ⟨_, rfl⟩
    rw [← hn] at cp hi
    have HN := Lib.hid hn
    clear hA hx h hn
    have q0 := cell_alloc' (.cells #[.int .i64 0, .int .i64 0] 56) g0
    have q1 := cell_alloc' (.cells #[.int .i64 0, .int .i64 0] 56) g1
    have q2 := cell_alloc' (.cells #[.int .i64 0, .int .i64 0] 56) g2
    have q3 := cell_alloc' (.cells #[.int .i64 0, .int .i64 0] 56) g3
    have qp := cell_alloc' (.cells #[.int .i64 0, .int .i64 0] 56) cp
    have HM : Hid (∀ y : Ext ((w.alloc (.cells #[.int .i64 0, .int .i64 0] 56)).alloc (.cells #[.int .i64 d, .int .i64 3, .int .i64 a, .int .i64 b] 37)), Mach E y.1 ⟨g, lv, fv⟩ s) := Lib.hid fun y => ((H.out.alloc _).alloc _).ext y
    have gl : ∀ y : Ext ((w.alloc (.cells #[.int .i64 0, .int .i64 0] 56)).alloc (.cells #[.int .i64 d, .int .i64 3, .int .i64 a, .int .i64 b] 37)), g < y.1.heap.size := fun y => y.lt (by simp; omega)
    have y1 : ∀ y : Ext ((w.alloc (.cells #[.int .i64 0, .int .i64 0] 56)).alloc (.cells #[.int .i64 d, .int .i64 3, .int .i64 a, .int .i64 b] 37)), y.1.cell? ⟨g, 4, none⟩ = some (.int .i64 s.first) := fun y => (HM.out y).face.c1
    have y4 : ∀ y : Ext ((w.alloc (.cells #[.int .i64 0, .int .i64 0] 56)).alloc (.cells #[.int .i64 d, .int .i64 3, .int .i64 a, .int .i64 b] 37)), y.1.frozen? ⟨g, 4, none⟩ = false := fun y => (HM.out y).face.f4
    have HBK : Hid (∀ y : Ext ((w.alloc (.cells #[.int .i64 0, .int .i64 0] 56)).alloc (.cells #[.int .i64 d, .int .i64 3, .int .i64 a, .int .i64 b] 37)), Blk y.1 w.heap.size 56 #[.int .i64 0, .int .i64 0]) := Lib.hid fun y => ((Blk.new w _ _).alloc _).ext y
    have HBL : Hid (∀ y : Ext ((w.alloc (.cells #[.int .i64 0, .int .i64 0] 56)).alloc (.cells #[.int .i64 d, .int .i64 3, .int .i64 a, .int .i64 b] 37)), Blk y.1 (w.heap.size + 1) 37 #[.int .i64 d, .int .i64 3, .int .i64 a, .int .i64 b]) := Lib.hid fun y => (by have := Blk.new (w.alloc (.cells #[.int .i64 0, .int .i64 0] 56)) 37 #[.int .i64 d, .int .i64 3, .int .i64 a, .int .i64 b]; rw [show (w.alloc (.cells #[.int .i64 0, .int .i64 0] 56)).heap.size = w.heap.size + 1 from by simp] at this; exact this.ext y)
    have HST : Hid (∀ y : Ext ((w.alloc (.cells #[.int .i64 0, .int .i64 0] 56)).alloc (.cells #[.int .i64 d, .int .i64 3, .int .i64 a, .int .i64 b] 37)), Step w ⟨g, lv, fv⟩ y.1 ⟨g, lv, fv⟩) := Lib.hid fun y => (((Step.refl w _).alloc _).alloc _).trans (Step.ext _ y)
    have ll : ∀ y : Ext ((w.alloc (.cells #[.int .i64 0, .int .i64 0] 56)).alloc (.cells #[.int .i64 d, .int .i64 3, .int .i64 a, .int .i64 b] 37)), w.heap.size + 1 < y.1.heap.size := fun y => (HBL.out y).lt
    have l1 : ∀ y : Ext ((w.alloc (.cells #[.int .i64 0, .int .i64 0] 56)).alloc (.cells #[.int .i64 d, .int .i64 3, .int .i64 a, .int .i64 b] 37)), y.1.cell? ⟨w.heap.size + 1, 1, none⟩ = some (.int .i64 3) := fun y => (HBL.out y).cell 1
    have l2 : ∀ y : Ext ((w.alloc (.cells #[.int .i64 0, .int .i64 0] 56)).alloc (.cells #[.int .i64 d, .int .i64 3, .int .i64 a, .int .i64 b] 37)), y.1.cell? ⟨w.heap.size + 1, 2, none⟩ = some (.int .i64 a) := fun y => (HBL.out y).cell 2
    have l3 : ∀ y : Ext ((w.alloc (.cells #[.int .i64 0, .int .i64 0] 56)).alloc (.cells #[.int .i64 d, .int .i64 3, .int .i64 a, .int .i64 b] 37)), y.1.cell? ⟨w.heap.size + 1, 3, none⟩ = some (.int .i64 b) := fun y => (HBL.out y).cell 3
    have e0 : ∀ (y : Ext ((w.alloc (.cells #[.int .i64 0, .int .i64 0] 56)).alloc (.cells #[.int .i64 d, .int .i64 3, .int .i64 a, .int .i64 b] 37))) (j : Nat), y.1.frozen? ⟨w.heap.size, j, none⟩ = false := fun y j => (HBK.out y).frozen j
    have e1 : ∀ (y : Ext ((w.alloc (.cells #[.int .i64 0, .int .i64 0] 56)).alloc (.cells #[.int .i64 d, .int .i64 3, .int .i64 a, .int .i64 b] 37))), y.1.cell? ⟨w.heap.size, 0, none⟩ = some (.int .i64 0) := fun y => (HBK.out y).cell 0
    have e2 : ∀ (y : Ext ((w.alloc (.cells #[.int .i64 0, .int .i64 0] 56)).alloc (.cells #[.int .i64 d, .int .i64 3, .int .i64 a, .int .i64 b] 37))), y.1.cell? ⟨w.heap.size, 1, none⟩ = some (.int .i64 0) := fun y => (HBK.out y).cell 1
    have HMM : Hid (∀ y : Ext ((w.alloc (.cells #[.int .i64 0, .int .i64 0] 56)).alloc (.cells #[.int .i64 d, .int .i64 3, .int .i64 a, .int .i64 b] 37)), Mach E (y.1.setCell ⟨g, 4, none⟩ (.int .i64 i)) ⟨g, lv, fv⟩ { s with first := i }) := Lib.hid fun y => (HM.out y).setFirst i
    have HBM : Hid (∀ y : Ext ((w.alloc (.cells #[.int .i64 0, .int .i64 0] 56)).alloc (.cells #[.int .i64 d, .int .i64 3, .int .i64 a, .int .i64 b] 37)), Blk (y.1.setCell ⟨g, 4, none⟩ (.int .i64 i)) w.heap.size 56 #[.int .i64 0, .int .i64 0]) := Lib.hid fun y => Blk.far (HBK.out y) (by simp; omega) _
    have HLM : Hid (∀ y : Ext ((w.alloc (.cells #[.int .i64 0, .int .i64 0] 56)).alloc (.cells #[.int .i64 d, .int .i64 3, .int .i64 a, .int .i64 b] 37)), Blk (y.1.setCell ⟨g, 4, none⟩ (.int .i64 i)) (w.heap.size + 1) 37 #[.int .i64 d, .int .i64 3, .int .i64 a, .int .i64 b]) := Lib.hid fun y => Blk.far (HBL.out y) (by simp; omega) _
    have HSM : Hid (∀ y : Ext ((w.alloc (.cells #[.int .i64 0, .int .i64 0] 56)).alloc (.cells #[.int .i64 d, .int .i64 3, .int .i64 a, .int .i64 b] 37)), Step w ⟨g, lv, fv⟩ (y.1.setCell ⟨g, 4, none⟩ (.int .i64 i)) ⟨g, lv, fv⟩) := Lib.hid fun y => (HST.out y).setCell (.inr (.inl rfl)) _
    have m1 : ∀ y : Ext ((w.alloc (.cells #[.int .i64 0, .int .i64 0] 56)).alloc (.cells #[.int .i64 d, .int .i64 3, .int .i64 a, .int .i64 b] 37)), (y.1.setCell ⟨g, 4, none⟩ (.int .i64 i)).cell? ⟨w.heap.size + 1, 1, none⟩ = some (.int .i64 3) := fun y => (HLM.out y).cell 1
    have m2 : ∀ y : Ext ((w.alloc (.cells #[.int .i64 0, .int .i64 0] 56)).alloc (.cells #[.int .i64 d, .int .i64 3, .int .i64 a, .int .i64 b] 37)), (y.1.setCell ⟨g, 4, none⟩ (.int .i64 i)).cell? ⟨w.heap.size + 1, 2, none⟩ = some (.int .i64 a) := fun y => (HLM.out y).cell 2
    have m3 : ∀ y : Ext ((w.alloc (.cells #[.int .i64 0, .int .i64 0] 56)).alloc (.cells #[.int .i64 d, .int .i64 3, .int .i64 a, .int .i64 b] 37)), (y.1.setCell ⟨g, 4, none⟩ (.int .i64 i)).cell? ⟨w.heap.size + 1, 3, none⟩ = some (.int .i64 b) := fun y => (HLM.out y).cell 3
    have m4 : ∀ (y : Ext ((w.alloc (.cells #[.int .i64 0, .int .i64 0] 56)).alloc (.cells #[.int .i64 d, .int .i64 3, .int .i64 a, .int .i64 b] 37))) (j : Nat), (y.1.setCell ⟨g, 4, none⟩ (.int .i64 i)).frozen? ⟨w.heap.size, j, none⟩ = false := fun y j => (HBM.out y).frozen j
    have m5 : ∀ (y : Ext ((w.alloc (.cells #[.int .i64 0, .int .i64 0] 56)).alloc (.cells #[.int .i64 d, .int .i64 3, .int .i64 a, .int .i64 b] 37))), (y.1.setCell ⟨g, 4, none⟩ (.int .i64 i)).cell? ⟨w.heap.size, 0, none⟩ = some (.int .i64 0) := fun y => (HBM.out y).cell 0
    have m6 : ∀ (y : Ext ((w.alloc (.cells #[.int .i64 0, .int .i64 0] 56)).alloc (.cells #[.int .i64 d, .int .i64 3, .int .i64 a, .int .i64 b] 37))), (y.1.setCell ⟨g, 4, none⟩ (.int .i64 i)).cell? ⟨w.heap.size, 1, none⟩ = some (.int .i64 0) := fun y => (HBM.out y).cell 1
    have hf' : decide (s.first < 0) = true := decide_eq_true hf
    clear g0 g1 g2 g3 cp cl c1 f2
    go_enter Try.func55, Try.ntmps55
    have hd' : decide (hd < 0) = false := decide_eq_false h0
    go_wp2_with (go_at_call 88; refine (calls_ext0 (W := ((w.alloc (.cells #[.int .i64 0, .int .i64 0] 56)).alloc (.cells #[.int .i64 d, .int .i64 3, .int .i64 a, .int .i64 b] 37))) (jumps_calls ⟨d, 3, a, b⟩ _)).mono ?_; rw [show jumps 3 = true from rfl]; rintro e w1 ⟨rfl, y, rfl⟩)
    refine bodyPost_ret (results_cell_row rfl _ _ w.heap.size 56 #[.int .i64 2, .int .i64 hd] (0, 0) _ rfl ((HBM.out y).set2 _ _) Try.underlying56 rfl (by kernel_rfl)) rfl ?_
    have e : lineR E.p B i hd s = (⟨2, hd⟩, { s with first := i }) := by rw [lineR_3n HX.out.symm (by omega), markR_yes HX.out.symm rfl hf]
    exact mret_of (HMM.out y) (HSM.out y) rfl (HBM.out y) hgl H.out.ge (by rw [e]) (by rw [e]) (by rw [e])
  · obtain ⟨g, lv, fv⟩ := m
    obtain ⟨hgl, -, cp, cl, -, c1, f2, -⟩ := h.face
    obtain ⟨ad, hA, hab, g0, g1, g2, g3⟩ := h.p.line hi
    have HA := Lib.hid hA
    rw [hA] at cp
    obtain ⟨x, hx⟩ : ∃ x, x = ln E.p i := ⟨_, rfl⟩
    rw [← hx] at g0 g1 g2 g3 hk
    obtain ⟨d, k, a, b⟩ := x
    simp only [] at g0 g1 g2 g3 hk
    subst hk
    have HX := Lib.hid hx
    have H := Lib.hid h
    obtain ⟨n, hn⟩ : ∃ n, n = E.p.length := ⟨_, rfl⟩
    rw [← hn] at cp hi
    have HN := Lib.hid hn
    clear hA hx h hn
    have q0 := cell_alloc' (.cells #[.int .i64 0, .int .i64 0] 56) g0
    have q1 := cell_alloc' (.cells #[.int .i64 0, .int .i64 0] 56) g1
    have q2 := cell_alloc' (.cells #[.int .i64 0, .int .i64 0] 56) g2
    have q3 := cell_alloc' (.cells #[.int .i64 0, .int .i64 0] 56) g3
    have qp := cell_alloc' (.cells #[.int .i64 0, .int .i64 0] 56) cp
    have HM : Hid (∀ y : Ext ((w.alloc (.cells #[.int .i64 0, .int .i64 0] 56)).alloc (.cells #[.int .i64 d, .int .i64 3, .int .i64 a, .int .i64 b] 37)), Mach E y.1 ⟨g, lv, fv⟩ s) := Lib.hid fun y => ((H.out.alloc _).alloc _).ext y
    have gl : ∀ y : Ext ((w.alloc (.cells #[.int .i64 0, .int .i64 0] 56)).alloc (.cells #[.int .i64 d, .int .i64 3, .int .i64 a, .int .i64 b] 37)), g < y.1.heap.size := fun y => y.lt (by simp; omega)
    have y1 : ∀ y : Ext ((w.alloc (.cells #[.int .i64 0, .int .i64 0] 56)).alloc (.cells #[.int .i64 d, .int .i64 3, .int .i64 a, .int .i64 b] 37)), y.1.cell? ⟨g, 4, none⟩ = some (.int .i64 s.first) := fun y => (HM.out y).face.c1
    have y4 : ∀ y : Ext ((w.alloc (.cells #[.int .i64 0, .int .i64 0] 56)).alloc (.cells #[.int .i64 d, .int .i64 3, .int .i64 a, .int .i64 b] 37)), y.1.frozen? ⟨g, 4, none⟩ = false := fun y => (HM.out y).face.f4
    have HBK : Hid (∀ y : Ext ((w.alloc (.cells #[.int .i64 0, .int .i64 0] 56)).alloc (.cells #[.int .i64 d, .int .i64 3, .int .i64 a, .int .i64 b] 37)), Blk y.1 w.heap.size 56 #[.int .i64 0, .int .i64 0]) := Lib.hid fun y => ((Blk.new w _ _).alloc _).ext y
    have HBL : Hid (∀ y : Ext ((w.alloc (.cells #[.int .i64 0, .int .i64 0] 56)).alloc (.cells #[.int .i64 d, .int .i64 3, .int .i64 a, .int .i64 b] 37)), Blk y.1 (w.heap.size + 1) 37 #[.int .i64 d, .int .i64 3, .int .i64 a, .int .i64 b]) := Lib.hid fun y => (by have := Blk.new (w.alloc (.cells #[.int .i64 0, .int .i64 0] 56)) 37 #[.int .i64 d, .int .i64 3, .int .i64 a, .int .i64 b]; rw [show (w.alloc (.cells #[.int .i64 0, .int .i64 0] 56)).heap.size = w.heap.size + 1 from by simp] at this; exact this.ext y)
    have HST : Hid (∀ y : Ext ((w.alloc (.cells #[.int .i64 0, .int .i64 0] 56)).alloc (.cells #[.int .i64 d, .int .i64 3, .int .i64 a, .int .i64 b] 37)), Step w ⟨g, lv, fv⟩ y.1 ⟨g, lv, fv⟩) := Lib.hid fun y => (((Step.refl w _).alloc _).alloc _).trans (Step.ext _ y)
    have ll : ∀ y : Ext ((w.alloc (.cells #[.int .i64 0, .int .i64 0] 56)).alloc (.cells #[.int .i64 d, .int .i64 3, .int .i64 a, .int .i64 b] 37)), w.heap.size + 1 < y.1.heap.size := fun y => (HBL.out y).lt
    have l1 : ∀ y : Ext ((w.alloc (.cells #[.int .i64 0, .int .i64 0] 56)).alloc (.cells #[.int .i64 d, .int .i64 3, .int .i64 a, .int .i64 b] 37)), y.1.cell? ⟨w.heap.size + 1, 1, none⟩ = some (.int .i64 3) := fun y => (HBL.out y).cell 1
    have l2 : ∀ y : Ext ((w.alloc (.cells #[.int .i64 0, .int .i64 0] 56)).alloc (.cells #[.int .i64 d, .int .i64 3, .int .i64 a, .int .i64 b] 37)), y.1.cell? ⟨w.heap.size + 1, 2, none⟩ = some (.int .i64 a) := fun y => (HBL.out y).cell 2
    have l3 : ∀ y : Ext ((w.alloc (.cells #[.int .i64 0, .int .i64 0] 56)).alloc (.cells #[.int .i64 d, .int .i64 3, .int .i64 a, .int .i64 b] 37)), y.1.cell? ⟨w.heap.size + 1, 3, none⟩ = some (.int .i64 b) := fun y => (HBL.out y).cell 3
    have e0 : ∀ (y : Ext ((w.alloc (.cells #[.int .i64 0, .int .i64 0] 56)).alloc (.cells #[.int .i64 d, .int .i64 3, .int .i64 a, .int .i64 b] 37))) (j : Nat), y.1.frozen? ⟨w.heap.size, j, none⟩ = false := fun y j => (HBK.out y).frozen j
    have e1 : ∀ (y : Ext ((w.alloc (.cells #[.int .i64 0, .int .i64 0] 56)).alloc (.cells #[.int .i64 d, .int .i64 3, .int .i64 a, .int .i64 b] 37))), y.1.cell? ⟨w.heap.size, 0, none⟩ = some (.int .i64 0) := fun y => (HBK.out y).cell 0
    have e2 : ∀ (y : Ext ((w.alloc (.cells #[.int .i64 0, .int .i64 0] 56)).alloc (.cells #[.int .i64 d, .int .i64 3, .int .i64 a, .int .i64 b] 37))), y.1.cell? ⟨w.heap.size, 1, none⟩ = some (.int .i64 0) := fun y => (HBK.out y).cell 1
    have hf' : decide (s.first < 0) = false := decide_eq_false hf
    clear g0 g1 g2 g3 cp cl c1 f2
    go_enter Try.func55, Try.ntmps55
    have hd' : decide (hd < 0) = false := decide_eq_false h0
    go_wp2_with (go_at_call 88; refine (calls_ext0 (W := ((w.alloc (.cells #[.int .i64 0, .int .i64 0] 56)).alloc (.cells #[.int .i64 d, .int .i64 3, .int .i64 a, .int .i64 b] 37))) (jumps_calls ⟨d, 3, a, b⟩ _)).mono ?_; rw [show jumps 3 = true from rfl]; rintro e w1 ⟨rfl, y, rfl⟩)
    refine bodyPost_ret (results_cell_row rfl _ _ w.heap.size 56 #[.int .i64 2, .int .i64 hd] (0, 0) _ rfl ((HBK.out y).set2 _ _) Try.underlying56 rfl (by kernel_rfl)) rfl ?_
    have e : lineR E.p B i hd s = (⟨2, hd⟩, s) := by rw [lineR_3n HX.out.symm (by omega), markR_no HX.out.symm (by omega)]
    exact mret_of (HM.out y) (HST.out y) rfl (HBK.out y) hgl H.out.ge (by rw [e]) (by rw [e]) (by rw [e])
end Go.Proofs.Ytihjakpedbaokaa.K
