/- Walks: a line of a program that ends its block (impl: machine.line). -/
import Derived.Test.YtihjakpedbaokaaC04
namespace Go.Proofs.Ytihjakpedbaokaa.K
open Go Go.RowKit

theorem Step.blkOf {E : Env} {w w' : World} {m m' : M} {s : St} {b : Nat} {T : TypeId} {cs : Array Value} (h : Step w m w' m') (hM : Mach E w m s) (hb : Blk w b T cs) (h1 : T ≠ 72) (h2 : T ≠ 3) (h3 : T ≠ 59) : Blk w' b T cs :=
  (h.block b hb.lt (hM.notBlk hb h1 h2 h3)).trans hb
set_option maxHeartbeats 4000000 in
set_option maxRecDepth 100000 in
theorem line_4 (E : Env) (B : Ru) (i : Nat) (hd : Int) (s : St) (m : M) (w : World) (hi : i < E.p.length) (h : Mach E w m s) (hk : (ln E.p i).kind = 4) :
    Calls Try.prog 55 #[.pointer (some ⟨m.g, 0, none⟩), .int .i64 i, .int .i64 hd] w (MRet E w m (lineR E.p B i hd s)) := by
  by_cases hf : s.first < 0
  · obtain ⟨g, lv, fv⟩ := m
    obtain ⟨hgl, -, cp, cl, -, c1, f2, -⟩ := h.face
    obtain ⟨ad, hA, hab, g0, g1, g2, g3⟩ := h.p.line hi
    have HA := Lib.hid hA
    rw [hA] at cp
    obtain ⟨x, hx⟩ : ∃ x, x = ln E.p i := ⟨_, rfl⟩
    rw [← hx] at g0 g1 g2 g3 hk
    obtain ⟨d, k, a, b⟩ := x
    simp only [] at g0 g1 g2 g3 hk
    subst hk
    have HX := Lib.hid hx
    have H := Lib.hid h
    obtain ⟨n, hn⟩ : ∃ n, n = E.p.length := ⟨_, rfl⟩
    rw [← hn] at cp hi
    have HN := Lib.hid hn
    clear hA hx h hn
    have q0 := cell_alloc' (.cells #[.int .i64 0, .int .i64 0] 56) g0
    have q1 := cell_alloc' (.cells #[.int .i64 0, .int .i64 0] 56) g1
    have q2 := cell_alloc' (.cells #[.int .i64 0, .int .i64 0] 56) g2
    have q3 := cell_alloc' (.cells #[.int .i64 0, .int .i64 0] 56) g3
    have qp := cell_alloc' (.cells #[.int .i64 0, .int .i64 0] 56) cp
    have HM : Hid (∀ y : Ext ((w.alloc (.cells #[.int .i64 0, .int .i64 0] 56)).alloc (.cells #[.int .i64 d, .int .i64 4, .int .i64 a, .int .i64 b] 37)), Mach E y.1 ⟨g, lv, fv⟩ s) := Lib.hid fun y => ((H.out.alloc _).alloc _).ext y
    have gl : ∀ y : Ext ((w.alloc (.cells #[.int .i64 0, .int .i64 0] 56)).alloc (.cells #[.int .i64 d, .int .i64 4, .int .i64 a, .int .i64 b] 37)), g < y.1.heap.size := fun y => y.lt (by simp; omega)
    have y1 : ∀ y : Ext ((w.alloc (.cells #[.int .i64 0, .int .i64 0] 56)).alloc (.cells #[.int .i64 d, .int .i64 4, .int .i64 a, .int .i64 b] 37)), y.1.cell? ⟨g, 4, none⟩ = some (.int .i64 s.first) := fun y => (HM.out y).face.c1
    have y4 : ∀ y : Ext ((w.alloc (.cells #[.int .i64 0, .int .i64 0] 56)).alloc (.cells #[.int .i64 d, .int .i64 4, .int .i64 a, .int .i64 b] 37)), y.1.frozen? ⟨g, 4, none⟩ = false := fun y => (HM.out y).face.f4
    have HBK : Hid (∀ y : Ext ((w.alloc (.cells #[.int .i64 0, .int .i64 0] 56)).alloc (.cells #[.int .i64 d, .int .i64 4, .int .i64 a, .int .i64 b] 37)), Blk y.1 w.heap.size 56 #[.int .i64 0, .int .i64 0]) := Lib.hid fun y => ((Blk.new w _ _).alloc _).ext y
    have HBL : Hid (∀ y : Ext ((w.alloc (.cells #[.int .i64 0, .int .i64 0] 56)).alloc (.cells #[.int .i64 d, .int .i64 4, .int .i64 a, .int .i64 b] 37)), Blk y.1 (w.heap.size + 1) 37 #[.int .i64 d, .int .i64 4, .int .i64 a, .int .i64 b]) := Lib.hid fun y => (by have := Blk.new (w.alloc (.cells #[.int .i64 0, .int .i64 0] 56)) 37 #[.int .i64 d, .int .i64 4, .int .i64 a, .int .i64 b]; rw [show (w.alloc (.cells #[.int .i64 0, .int .i64 0] 56)).heap.size = w.heap.size + 1 from by simp] at this; exact this.ext y)
    have HST : Hid (∀ y : Ext ((w.alloc (.cells #[.int .i64 0, .int .i64 0] 56)).alloc (.cells #[.int .i64 d, .int .i64 4, .int .i64 a, .int .i64 b] 37)), Step w ⟨g, lv, fv⟩ y.1 ⟨g, lv, fv⟩) := Lib.hid fun y => (((Step.refl w _).alloc _).alloc _).trans (Step.ext _ y)
    have ll : ∀ y : Ext ((w.alloc (.cells #[.int .i64 0, .int .i64 0] 56)).alloc (.cells #[.int .i64 d, .int .i64 4, .int .i64 a, .int .i64 b] 37)), w.heap.size + 1 < y.1.heap.size := fun y => (HBL.out y).lt
    have l1 : ∀ y : Ext ((w.alloc (.cells #[.int .i64 0, .int .i64 0] 56)).alloc (.cells #[.int .i64 d, .int .i64 4, .int .i64 a, .int .i64 b] 37)), y.1.cell? ⟨w.heap.size + 1, 1, none⟩ = some (.int .i64 4) := fun y => (HBL.out y).cell 1
    have l2 : ∀ y : Ext ((w.alloc (.cells #[.int .i64 0, .int .i64 0] 56)).alloc (.cells #[.int .i64 d, .int .i64 4, .int .i64 a, .int .i64 b] 37)), y.1.cell? ⟨w.heap.size + 1, 2, none⟩ = some (.int .i64 a) := fun y => (HBL.out y).cell 2
    have l3 : ∀ y : Ext ((w.alloc (.cells #[.int .i64 0, .int .i64 0] 56)).alloc (.cells #[.int .i64 d, .int .i64 4, .int .i64 a, .int .i64 b] 37)), y.1.cell? ⟨w.heap.size + 1, 3, none⟩ = some (.int .i64 b) := fun y => (HBL.out y).cell 3
    have e0 : ∀ (y : Ext ((w.alloc (.cells #[.int .i64 0, .int .i64 0] 56)).alloc (.cells #[.int .i64 d, .int .i64 4, .int .i64 a, .int .i64 b] 37))) (j : Nat), y.1.frozen? ⟨w.heap.size, j, none⟩ = false := fun y j => (HBK.out y).frozen j
    have e1 : ∀ (y : Ext ((w.alloc (.cells #[.int .i64 0, .int .i64 0] 56)).alloc (.cells #[.int .i64 d, .int .i64 4, .int .i64 a, .int .i64 b] 37))), y.1.cell? ⟨w.heap.size, 0, none⟩ = some (.int .i64 0) := fun y => (HBK.out y).cell 0
    have e2 : ∀ (y : Ext ((w.alloc (.cells #[.int .i64 0, .int .i64 0] 56)).alloc (.cells #[.int .i64 d, .int .i64 4, .int .i64 a, .int .i64 b] 37))), y.1.cell? ⟨w.heap.size, 1, none⟩ = some (.int .i64 0) := fun y => (HBK.out y).cell 1
    have HMM : Hid (∀ y : Ext ((w.alloc (.cells #[.int .i64 0, .int .i64 0] 56)).alloc (.cells #[.int .i64 d, .int .i64 4, .int .i64 a, .int .i64 b] 37)), Mach E (y.1.setCell ⟨g, 4, none⟩ (.int .i64 i)) ⟨g, lv, fv⟩ { s with first := i }) := Lib.hid fun y => (HM.out y).setFirst i
    have HBM : Hid (∀ y : Ext ((w.alloc (.cells #[.int .i64 0, .int .i64 0] 56)).alloc (.cells #[.int .i64 d, .int .i64 4, .int .i64 a, .int .i64 b] 37)), Blk (y.1.setCell ⟨g, 4, none⟩ (.int .i64 i)) w.heap.size 56 #[.int .i64 0, .int .i64 0]) := Lib.hid fun y => Blk.far (HBK.out y) (by simp; omega) _
    have HLM : Hid (∀ y : Ext ((w.alloc (.cells #[.int .i64 0, .int .i64 0] 56)).alloc (.cells #[.int .i64 d, .int .i64 4, .int .i64 a, .int .i64 b] 37)), Blk (y.1.setCell ⟨g, 4, none⟩ (.int .i64 i)) (w.heap.size + 1) 37 #[.int .i64 d, .int .i64 4, .int .i64 a, .int .i64 b]) := Lib.hid fun y => Blk.far (HBL.out y) (by simp; omega) _
    have HSM : Hid (∀ y : Ext ((w.alloc (.cells #[.int .i64 0, .int .i64 0] 56)).alloc (.cells #[.int .i64 d, .int .i64 4, .int .i64 a, .int .i64 b] 37)), Step w ⟨g, lv, fv⟩ (y.1.setCell ⟨g, 4, none⟩ (.int .i64 i)) ⟨g, lv, fv⟩) := Lib.hid fun y => (HST.out y).setCell (.inr (.inl rfl)) _
    have m1 : ∀ y : Ext ((w.alloc (.cells #[.int .i64 0, .int .i64 0] 56)).alloc (.cells #[.int .i64 d, .int .i64 4, .int .i64 a, .int .i64 b] 37)), (y.1.setCell ⟨g, 4, none⟩ (.int .i64 i)).cell? ⟨w.heap.size + 1, 1, none⟩ = some (.int .i64 4) := fun y => (HLM.out y).cell 1
    have m2 : ∀ y : Ext ((w.alloc (.cells #[.int .i64 0, .int .i64 0] 56)).alloc (.cells #[.int .i64 d, .int .i64 4, .int .i64 a, .int .i64 b] 37)), (y.1.setCell ⟨g, 4, none⟩ (.int .i64 i)).cell? ⟨w.heap.size + 1, 2, none⟩ = some (.int .i64 a) := fun y => (HLM.out y).cell 2
    have m3 : ∀ y : Ext ((w.alloc (.cells #[.int .i64 0, .int .i64 0] 56)).alloc (.cells #[.int .i64 d, .int .i64 4, .int .i64 a, .int .i64 b] 37)), (y.1.setCell ⟨g, 4, none⟩ (.int .i64 i)).cell? ⟨w.heap.size + 1, 3, none⟩ = some (.int .i64 b) := fun y => (HLM.out y).cell 3
    have m4 : ∀ (y : Ext ((w.alloc (.cells #[.int .i64 0, .int .i64 0] 56)).alloc (.cells #[.int .i64 d, .int .i64 4, .int .i64 a, .int .i64 b] 37))) (j : Nat), (y.1.setCell ⟨g, 4, none⟩ (.int .i64 i)).frozen? ⟨w.heap.size, j, none⟩ = false := fun y j => (HBM.out y).frozen j
    have m5 : ∀ (y : Ext ((w.alloc (.cells #[.int .i64 0, .int .i64 0] 56)).alloc (.cells #[.int .i64 d, .int .i64 4, .int .i64 a, .int .i64 b] 37))), (y.1.setCell ⟨g, 4, none⟩ (.int .i64 i)).cell? ⟨w.heap.size, 0, none⟩ = some (.int .i64 0) := fun y => (HBM.out y).cell 0
    have m6 : ∀ (y : Ext ((w.alloc (.cells #[.int .i64 0, .int .i64 0] 56)).alloc (.cells #[.int .i64 d, .int .i64 4, .int .i64 a, .int .i64 b] 37))), (y.1.setCell ⟨g, 4, none⟩ (.int .i64 i)).cell? ⟨w.heap.size, 1, none⟩ = some (.int .i64 0) := fun y => (HBM.out y).cell 1
    have hf' : decide (s.first < 0) = true := decide_eq_true hf
    clear g0 g1 g2 g3 cp cl c1 f2
    go_enter Try.func55, Try.ntmps55
    go_wp2_with (go_at_call 88; refine (calls_ext0 (W := ((w.alloc (.cells #[.int .i64 0, .int .i64 0] 56)).alloc (.cells #[.int .i64 d, .int .i64 4, .int .i64 a, .int .i64 b] 37))) (jumps_calls ⟨d, 4, a, b⟩ _)).mono ?_; rw [show jumps 4 = true from rfl]; rintro e w1 ⟨rfl, y, rfl⟩)
    refine bodyPost_ret (results_cell_row rfl _ _ w.heap.size 56 #[.int .i64 1, .int .i64 a] (0, 0) _ rfl ((HBM.out y).set2 _ _) Try.underlying56 rfl (by kernel_rfl)) rfl ?_
    have e : lineR E.p B i hd s = (⟨1, a⟩, { s with first := i }) := by rw [lineR_4 HX.out.symm, markR_yes HX.out.symm rfl hf]
    exact mret_of (HMM.out y) (HSM.out y) rfl (HBM.out y) hgl H.out.ge (by rw [e]) (by rw [e]) (by rw [e])
  · obtain ⟨g, lv, fv⟩ := m
    obtain ⟨hgl, -, cp, cl, -, c1, f2, -⟩ := h.face
    obtain ⟨ad, hA, hab, g0, g1, g2, g3⟩ := h.p.line hi
    have HA := Lib.hid hA
    rw [hA] at cp
    obtain ⟨x, hx⟩ : ∃ x, x = ln E.p i := ⟨_, rfl⟩
    rw [← hx] at g0 g1 g2 g3 hk
    obtain ⟨d, k, a, b⟩ := x
    simp only [] at g0 g1 g2 g3 hk
    subst hk
    have HX := Lib.hid hx
    have H := Lib.hid h
    obtain ⟨n, hn⟩ : ∃ n, n = E.p.length := ⟨_, rfl⟩
    rw [← hn] at cp hi
    have HN := Lib.hid hn
    clear hA hx h hn
    have q0 := cell_alloc' (.cells #[.int .i64 0, .int .i64 0] 56) g0
    have q1 := cell_alloc' (.cells #[.int .i64 0, .int .i64 0] 56) g1
    have q2 := cell_alloc' (.cells #[.int .i64 0, .int .i64 0] 56) g2
    have q3 := cell_alloc' (.cells #[.int .i64 0, .int .i64 0] 56) g3
    have qp := cell_alloc' (.cells #[.int .i64 0, .int .i64 0] 56) cp
    have HM : Hid (∀ y : Ext ((w.alloc (.cells #[.int .i64 0, .int .i64 0] 56)).alloc (.cells #[.int .i64 d, .int .i64 4, .int .i64 a, .int .i64 b] 37)), Mach E y.1 ⟨g, lv, fv⟩ s) := Lib.hid fun y => ((H.out.alloc _).alloc _).ext y
    have gl : ∀ y : Ext ((w.alloc (.cells #[.int .i64 0, .int .i64 0] 56)).alloc (.cells #[.int .i64 d, .int .i64 4, .int .i64 a, .int .i64 b] 37)), g < y.1.heap.size := fun y => y.lt (by simp; omega)
    have y1 : ∀ y : Ext ((w.alloc (.cells #[.int .i64 0, .int .i64 0] 56)).alloc (.cells #[.int .i64 d, .int .i64 4, .int .i64 a, .int .i64 b] 37)), y.1.cell? ⟨g, 4, none⟩ = some (.int .i64 s.first) := fun y => (HM.out y).face.c1
    have y4 : ∀ y : Ext ((w.alloc (.cells #[.int .i64 0, .int .i64 0] 56)).alloc (.cells #[.int .i64 d, .int .i64 4, .int .i64 a, .int .i64 b] 37)), y.1.frozen? ⟨g, 4, none⟩ = false := fun y => (HM.out y).face.f4
    have HBK : Hid (∀ y : Ext ((w.alloc (.cells #[.int .i64 0, .int .i64 0] 56)).alloc (.cells #[.int .i64 d, .int .i64 4, .int .i64 a, .int .i64 b] 37)), Blk y.1 w.heap.size 56 #[.int .i64 0, .int .i64 0]) := Lib.hid fun y => ((Blk.new w _ _).alloc _).ext y
    have HBL : Hid (∀ y : Ext ((w.alloc (.cells #[.int .i64 0, .int .i64 0] 56)).alloc (.cells #[.int .i64 d, .int .i64 4, .int .i64 a, .int .i64 b] 37)), Blk y.1 (w.heap.size + 1) 37 #[.int .i64 d, .int .i64 4, .int .i64 a, .int .i64 b]) := Lib.hid fun y => (by have := Blk.new (w.alloc (.cells #[.int .i64 0, .int .i64 0] 56)) 37 #[.int .i64 d, .int .i64 4, .int .i64 a, .int .i64 b]; rw [show (w.alloc (.cells #[.int .i64 0, .int .i64 0] 56)).heap.size = w.heap.size + 1 from by simp] at this; exact this.ext y)
    have HST : Hid (∀ y : Ext ((w.alloc (.cells #[.int .i64 0, .int .i64 0] 56)).alloc (.cells #[.int .i64 d, .int .i64 4, .int .i64 a, .int .i64 b] 37)), Step w ⟨g, lv, fv⟩ y.1 ⟨g, lv, fv⟩) := Lib.hid fun y => (((Step.refl w _).alloc _).alloc _).trans (Step.ext _ y)
    have ll : ∀ y : Ext ((w.alloc (.cells #[.int .i64 0, .int .i64 0] 56)).alloc (.cells #[.int .i64 d, .int .i64 4, .int .i64 a, .int .i64 b] 37)), w.heap.size + 1 < y.1.heap.size := fun y => (HBL.out y).lt
    have l1 : ∀ y : Ext ((w.alloc (.cells #[.int .i64 0, .int .i64 0] 56)).alloc (.cells #[.int .i64 d, .int .i64 4, .int .i64 a, .int .i64 b] 37)), y.1.cell? ⟨w.heap.size + 1, 1, none⟩ = some (.int .i64 4) := fun y => (HBL.out y).cell 1
    have l2 : ∀ y : Ext ((w.alloc (.cells #[.int .i64 0, .int .i64 0] 56)).alloc (.cells #[.int .i64 d, .int .i64 4, .int .i64 a, .int .i64 b] 37)), y.1.cell? ⟨w.heap.size + 1, 2, none⟩ = some (.int .i64 a) := fun y => (HBL.out y).cell 2
    have l3 : ∀ y : Ext ((w.alloc (.cells #[.int .i64 0, .int .i64 0] 56)).alloc (.cells #[.int .i64 d, .int .i64 4, .int .i64 a, .int .i64 b] 37)), y.1.cell? ⟨w.heap.size + 1, 3, none⟩ = some (.int .i64 b) := fun y => (HBL.out y).cell 3
    have e0 : ∀ (y : Ext ((w.alloc (.cells #[.int .i64 0, .int .i64 0] 56)).alloc (.cells #[.int .i64 d, .int .i64 4, .int .i64 a, .int .i64 b] 37))) (j : Nat), y.1.frozen? ⟨w.heap.size, j, none⟩ = false := fun y j => (HBK.out y).frozen j
    have e1 : ∀ (y : Ext ((w.alloc (.cells #[.int .i64 0, .int .i64 0] 56)).alloc (.cells #[.int .i64 d, .int .i64 4, .int .i64 a, .int .i64 b] 37))), y.1.cell? ⟨w.heap.size, 0, none⟩ = some (.int .i64 0) := fun y => (HBK.out y).cell 0
    have e2 : ∀ (y : Ext ((w.alloc (.cells #[.int .i64 0, .int .i64 0] 56)).alloc (.cells #[.int .i64 d, .int .i64 4, .int .i64 a, .int .i64 b] 37))), y.1.cell? ⟨w.heap.size, 1, none⟩ = some (.int .i64 0) := fun y => (HBK.out y).cell 1
    have hf' : decide (s.first < 0) = false := decide_eq_false hf
    clear g0 g1 g2 g3 cp cl c1 f2
    go_enter Try.func55, Try.ntmps55
    go_wp2_with (go_at_call 88; refine (calls_ext0 (W := ((w.alloc (.cells #[.int .i64 0, .int .i64 0] 56)).alloc (.cells #[.int .i64 d, .int .i64 4, .int .i64 a, .int .i64 b] 37))) (jumps_calls ⟨d, 4, a, b⟩ _)).mono ?_; rw [show jumps 4 = true from rfl]; rintro e w1 ⟨rfl, y, rfl⟩)
    refine bodyPost_ret (results_cell_row rfl _ _ w.heap.size 56 #[.int .i64 1, .int .i64 a] (0, 0) _ rfl ((HBK.out y).set2 _ _) Try.underlying56 rfl (by kernel_rfl)) rfl ?_
    have e : lineR E.p B i hd s = (⟨1, a⟩, s) := by rw [lineR_4 HX.out.symm, markR_no HX.out.symm (by omega)]
    exact mret_of (HM.out y) (HST.out y) rfl (HBK.out y) hgl H.out.ge (by rw [e]) (by rw [e]) (by rw [e])
set_option maxHeartbeats 4000000 in
set_option maxRecDepth 100000 in
theorem line_5 (E : Env) (B : Ru) (i : Nat) (hd : Int) (s : St) (m : M) (w : World) (hi : i < E.p.length) (h : Mach E w m s) (hk : (ln E.p i).kind = 5) :
    Calls Try.prog 55 #[.pointer (some ⟨m.g, 0, none⟩), .int .i64 i, .int .i64 hd] w (MRet E w m (lineR E.p B i hd s)) := by
  by_cases hf : s.first < 0
  · obtain ⟨g, lv, fv⟩ := m
    obtain ⟨hgl, -, cp, cl, -, c1, f2, -⟩ := h.face
    obtain ⟨ad, hA, hab, g0, g1, g2, g3⟩ := h.p.line hi
    have HA := Lib.hid hA
    rw [hA] at cp
    obtain ⟨x, hx⟩ : ∃ x, x = ln E.p i := ⟨_, rfl⟩
    rw [← hx] at g0 g1 g2 g3 hk
    obtain ⟨d, k, a, b⟩ := x
    simp only [] at g0 g1 g2 g3 hk
    subst hk
    have HX := Lib.hid hx
    have H := Lib.hid h
    obtain ⟨n, hn⟩ : ∃ n, n = E.p.length := ⟨_, rfl⟩
    rw [← hn] at cp hi
    have HN := Lib.hid hn
    clear hA hx h hn
    have q0 := cell_alloc' (.cells #[.int .i64 0, .int .i64 0] 56) g0
    have q1 := cell_alloc' (.cells #[.int .i64 0, .int .i64 0] 56) g1
    have q2 := cell_alloc' (.cells #[.int .i64 0, .int .i64 0] 56) g2
    have q3 := cell_alloc' (.cells #[.int .i64 0, .int .i64 0] 56) g3
    have qp := cell_alloc' (.cells #[.int .i64 0, .int .i64 0] 56) cp
    have HM : Hid (∀ y : Ext ((w.alloc (.cells #[.int .i64 0, .int .i64 0] 56)).alloc (.cells #[.int .i64 d, .int .i64 5, .int .i64 a, .int .i64 b] 37)), Mach E y.1 ⟨g, lv, fv⟩ s) := Lib.hid fun y => ((H.out.alloc _).alloc _).ext y
    have gl : ∀ y : Ext ((w.alloc (.cells #[.int .i64 0, .int .i64 0] 56)).alloc (.cells #[.int .i64 d, .int .i64 5, .int .i64 a, .int .i64 b] 37)), g < y.1.heap.size := fun y => y.lt (by simp; omega)
    have y1 : ∀ y : Ext ((w.alloc (.cells #[.int .i64 0, .int .i64 0] 56)).alloc (.cells #[.int .i64 d, .int .i64 5, .int .i64 a, .int .i64 b] 37)), y.1.cell? ⟨g, 4, none⟩ = some (.int .i64 s.first) := fun y => (HM.out y).face.c1
    have y4 : ∀ y : Ext ((w.alloc (.cells #[.int .i64 0, .int .i64 0] 56)).alloc (.cells #[.int .i64 d, .int .i64 5, .int .i64 a, .int .i64 b] 37)), y.1.frozen? ⟨g, 4, none⟩ = false := fun y => (HM.out y).face.f4
    have HBK : Hid (∀ y : Ext ((w.alloc (.cells #[.int .i64 0, .int .i64 0] 56)).alloc (.cells #[.int .i64 d, .int .i64 5, .int .i64 a, .int .i64 b] 37)), Blk y.1 w.heap.size 56 #[.int .i64 0, .int .i64 0]) := Lib.hid fun y => ((Blk.new w _ _).alloc _).ext y
    have HBL : Hid (∀ y : Ext ((w.alloc (.cells #[.int .i64 0, .int .i64 0] 56)).alloc (.cells #[.int .i64 d, .int .i64 5, .int .i64 a, .int .i64 b] 37)), Blk y.1 (w.heap.size + 1) 37 #[.int .i64 d, .int .i64 5, .int .i64 a, .int .i64 b]) := Lib.hid fun y => (by have := Blk.new (w.alloc (.cells #[.int .i64 0, .int .i64 0] 56)) 37 #[.int .i64 d, .int .i64 5, .int .i64 a, .int .i64 b]; rw [show (w.alloc (.cells #[.int .i64 0, .int .i64 0] 56)).heap.size = w.heap.size + 1 from by simp] at this; exact this.ext y)
    have HST : Hid (∀ y : Ext ((w.alloc (.cells #[.int .i64 0, .int .i64 0] 56)).alloc (.cells #[.int .i64 d, .int .i64 5, .int .i64 a, .int .i64 b] 37)), Step w ⟨g, lv, fv⟩ y.1 ⟨g, lv, fv⟩) := Lib.hid fun y => (((Step.refl w _).alloc _).alloc _).trans (Step.ext _ y)
    have ll : ∀ y : Ext ((w.alloc (.cells #[.int .i64 0, .int .i64 0] 56)).alloc (.cells #[.int .i64 d, .int .i64 5, .int .i64 a, .int .i64 b] 37)), w.heap.size + 1 < y.1.heap.size := fun y => (HBL.out y).lt
    have l1 : ∀ y : Ext ((w.alloc (.cells #[.int .i64 0, .int .i64 0] 56)).alloc (.cells #[.int .i64 d, .int .i64 5, .int .i64 a, .int .i64 b] 37)), y.1.cell? ⟨w.heap.size + 1, 1, none⟩ = some (.int .i64 5) := fun y => (HBL.out y).cell 1
    have l2 : ∀ y : Ext ((w.alloc (.cells #[.int .i64 0, .int .i64 0] 56)).alloc (.cells #[.int .i64 d, .int .i64 5, .int .i64 a, .int .i64 b] 37)), y.1.cell? ⟨w.heap.size + 1, 2, none⟩ = some (.int .i64 a) := fun y => (HBL.out y).cell 2
    have l3 : ∀ y : Ext ((w.alloc (.cells #[.int .i64 0, .int .i64 0] 56)).alloc (.cells #[.int .i64 d, .int .i64 5, .int .i64 a, .int .i64 b] 37)), y.1.cell? ⟨w.heap.size + 1, 3, none⟩ = some (.int .i64 b) := fun y => (HBL.out y).cell 3
    have e0 : ∀ (y : Ext ((w.alloc (.cells #[.int .i64 0, .int .i64 0] 56)).alloc (.cells #[.int .i64 d, .int .i64 5, .int .i64 a, .int .i64 b] 37))) (j : Nat), y.1.frozen? ⟨w.heap.size, j, none⟩ = false := fun y j => (HBK.out y).frozen j
    have e1 : ∀ (y : Ext ((w.alloc (.cells #[.int .i64 0, .int .i64 0] 56)).alloc (.cells #[.int .i64 d, .int .i64 5, .int .i64 a, .int .i64 b] 37))), y.1.cell? ⟨w.heap.size, 0, none⟩ = some (.int .i64 0) := fun y => (HBK.out y).cell 0
    have e2 : ∀ (y : Ext ((w.alloc (.cells #[.int .i64 0, .int .i64 0] 56)).alloc (.cells #[.int .i64 d, .int .i64 5, .int .i64 a, .int .i64 b] 37))), y.1.cell? ⟨w.heap.size, 1, none⟩ = some (.int .i64 0) := fun y => (HBK.out y).cell 1
    have HMM : Hid (∀ y : Ext ((w.alloc (.cells #[.int .i64 0, .int .i64 0] 56)).alloc (.cells #[.int .i64 d, .int .i64 5, .int .i64 a, .int .i64 b] 37)), Mach E (y.1.setCell ⟨g, 4, none⟩ (.int .i64 i)) ⟨g, lv, fv⟩ { s with first := i }) := Lib.hid fun y => (HM.out y).setFirst i
    have HBM : Hid (∀ y : Ext ((w.alloc (.cells #[.int .i64 0, .int .i64 0] 56)).alloc (.cells #[.int .i64 d, .int .i64 5, .int .i64 a, .int .i64 b] 37)), Blk (y.1.setCell ⟨g, 4, none⟩ (.int .i64 i)) w.heap.size 56 #[.int .i64 0, .int .i64 0]) := Lib.hid fun y => Blk.far (HBK.out y) (by simp; omega) _
    have HLM : Hid (∀ y : Ext ((w.alloc (.cells #[.int .i64 0, .int .i64 0] 56)).alloc (.cells #[.int .i64 d, .int .i64 5, .int .i64 a, .int .i64 b] 37)), Blk (y.1.setCell ⟨g, 4, none⟩ (.int .i64 i)) (w.heap.size + 1) 37 #[.int .i64 d, .int .i64 5, .int .i64 a, .int .i64 b]) := Lib.hid fun y => Blk.far (HBL.out y) (by simp; omega) _
    have HSM : Hid (∀ y : Ext ((w.alloc (.cells #[.int .i64 0, .int .i64 0] 56)).alloc (.cells #[.int .i64 d, .int .i64 5, .int .i64 a, .int .i64 b] 37)), Step w ⟨g, lv, fv⟩ (y.1.setCell ⟨g, 4, none⟩ (.int .i64 i)) ⟨g, lv, fv⟩) := Lib.hid fun y => (HST.out y).setCell (.inr (.inl rfl)) _
    have m1 : ∀ y : Ext ((w.alloc (.cells #[.int .i64 0, .int .i64 0] 56)).alloc (.cells #[.int .i64 d, .int .i64 5, .int .i64 a, .int .i64 b] 37)), (y.1.setCell ⟨g, 4, none⟩ (.int .i64 i)).cell? ⟨w.heap.size + 1, 1, none⟩ = some (.int .i64 5) := fun y => (HLM.out y).cell 1
    have m2 : ∀ y : Ext ((w.alloc (.cells #[.int .i64 0, .int .i64 0] 56)).alloc (.cells #[.int .i64 d, .int .i64 5, .int .i64 a, .int .i64 b] 37)), (y.1.setCell ⟨g, 4, none⟩ (.int .i64 i)).cell? ⟨w.heap.size + 1, 2, none⟩ = some (.int .i64 a) := fun y => (HLM.out y).cell 2
    have m3 : ∀ y : Ext ((w.alloc (.cells #[.int .i64 0, .int .i64 0] 56)).alloc (.cells #[.int .i64 d, .int .i64 5, .int .i64 a, .int .i64 b] 37)), (y.1.setCell ⟨g, 4, none⟩ (.int .i64 i)).cell? ⟨w.heap.size + 1, 3, none⟩ = some (.int .i64 b) := fun y => (HLM.out y).cell 3
    have m4 : ∀ (y : Ext ((w.alloc (.cells #[.int .i64 0, .int .i64 0] 56)).alloc (.cells #[.int .i64 d, .int .i64 5, .int .i64 a, .int .i64 b] 37))) (j : Nat), (y.1.setCell ⟨g, 4, none⟩ (.int .i64 i)).frozen? ⟨w.heap.size, j, none⟩ = false := fun y j => (HBM.out y).frozen j
    have m5 : ∀ (y : Ext ((w.alloc (.cells #[.int .i64 0, .int .i64 0] 56)).alloc (.cells #[.int .i64 d, .int .i64 5, .int .i64 a, .int .i64 b] 37))), (y.1.setCell ⟨g, 4, none⟩ (.int .i64 i)).cell? ⟨w.heap.size, 0, none⟩ = some (.int .i64 0) := fun y => (HBM.out y).cell 0
    have m6 : ∀ (y : Ext ((w.alloc (.cells #[.int .i64 0, .int .i64 0] 56)).alloc (.cells #[.int .i64 d, .int .i64 5, .int .i64 a, .int .i64 b] 37))), (y.1.setCell ⟨g, 4, none⟩ (.int .i64 i)).cell? ⟨w.heap.size, 1, none⟩ = some (.int .i64 0) := fun y => (HBM.out y).cell 1
    have hf' : decide (s.first < 0) = true := decide_eq_true hf
    clear g0 g1 g2 g3 cp cl c1 f2
    go_enter Try.func55, Try.ntmps55
    go_wp2_with (go_at_call 88; refine (calls_ext0 (W := ((w.alloc (.cells #[.int .i64 0, .int .i64 0] 56)).alloc (.cells #[.int .i64 d, .int .i64 5, .int .i64 a, .int .i64 b] 37))) (jumps_calls ⟨d, 5, a, b⟩ _)).mono ?_; rw [show jumps 5 = true from rfl]; rintro e w1 ⟨rfl, y, rfl⟩)
    refine bodyPost_ret (results_cell_row rfl _ _ w.heap.size 56 #[.int .i64 3, .int .i64 0] (0, 0) _ rfl ((HBM.out y).set2 _ _) Try.underlying56 rfl (by kernel_rfl)) rfl ?_
    have e : lineR E.p B i hd s = (⟨3, 0⟩, { s with first := i }) := by rw [lineR_5 HX.out.symm, markR_yes HX.out.symm rfl hf]
    exact mret_of (HMM.out y) (HSM.out y) rfl (HBM.out y) hgl H.out.ge (by rw [e]) (by rw [e]) (by rw [e])
  · obtain ⟨g, lv, fv⟩ := m
    obtain ⟨hgl, -, cp, cl, -, c1, f2, -⟩ := h.face
    obtain ⟨ad, hA, hab, g0, g1, g2, g3⟩ := h.p.line hi
    have HA := Lib.hid hA
    rw [hA] at cp
    obtain ⟨x, hx⟩ : ∃ x, x = ln E.p i := ⟨_, rfl⟩
    rw [← hx] at g0 g1 g2 g3 hk
    obtain ⟨d, k, a, b⟩ := x
    simp only [] at g0 g1 g2 g3 hk
    subst hk
    have HX := Lib.hid hx
    have H := Lib.hid h
    obtain ⟨n, hn⟩ : ∃ n, n = E.p.length := ⟨_, rfl⟩
    rw [← hn] at cp hi
    have HN := Lib.hid hn
    clear hA hx h hn
    have q0 := cell_alloc' (.cells #[.int .i64 0, .int .i64 0] 56) g0
    have q1 := cell_alloc' (.cells #[.int .i64 0, .int .i64 0] 56) g1
    have q2 := cell_alloc' (.cells #[.int .i64 0, .int .i64 0] 56) g2
    have q3 := cell_alloc' (.cells #[.int .i64 0, .int .i64 0] 56) g3
    have qp := cell_alloc' (.cells #[.int .i64 0, .int .i64 0] 56) cp
    have HM : Hid (∀ y : Ext ((w.alloc (.cells #[.int .i64 0, .int .i64 0] 56)).alloc (.cells #[.int .i64 d, .int .i64 5, .int .i64 a, .int .i64 b] 37)), Mach E y.1 ⟨g, lv, fv⟩ s) := Lib.hid fun y => ((H.out.alloc _).alloc _).ext y
    have gl : ∀ y : Ext ((w.alloc (.cells #[.int .i64 0, .int .i64 0] 56)).alloc (.cells #[.int .i64 d, .int .i64 5, .int .i64 a, .int .i64 b] 37)), g < y.1.heap.size := fun y => y.lt (by simp; omega)
    have y1 : ∀ y : Ext ((w.alloc (.cells #[.int .i64 0, .int .i64 0] 56)).alloc (.cells #[.int .i64 d, .int .i64 5, .int .i64 a, .int .i64 b] 37)), y.1.cell? ⟨g, 4, none⟩ = some (.int .i64 s.first) := fun y => (HM.out y).face.c1
    have y4 : ∀ y : Ext ((w.alloc (.cells #[.int .i64 0, .int .i64 0] 56)).alloc (.cells #[.int .i64 d, .int .i64 5, .int .i64 a, .int .i64 b] 37)), y.1.frozen? ⟨g, 4, none⟩ = false := fun y => (HM.out y).face.f4
    have HBK : Hid (∀ y : Ext ((w.alloc (.cells #[.int .i64 0, .int .i64 0] 56)).alloc (.cells #[.int .i64 d, .int .i64 5, .int .i64 a, .int .i64 b] 37)), Blk y.1 w.heap.size 56 #[.int .i64 0, .int .i64 0]) := Lib.hid fun y => ((Blk.new w _ _).alloc _).ext y
    have HBL : Hid (∀ y : Ext ((w.alloc (.cells #[.int .i64 0, .int .i64 0] 56)).alloc (.cells #[.int .i64 d, .int .i64 5, .int .i64 a, .int .i64 b] 37)), Blk y.1 (w.heap.size + 1) 37 #[.int .i64 d, .int .i64 5, .int .i64 a, .int .i64 b]) := Lib.hid fun y => (by have := Blk.new (w.alloc (.cells #[.int .i64 0, .int .i64 0] 56)) 37 #[.int .i64 d, .int .i64 5, .int .i64 a, .int .i64 b]; rw [show (w.alloc (.cells #[.int .i64 0, .int .i64 0] 56)).heap.size = w.heap.size + 1 from by simp] at this; exact this.ext y)
    have HST : Hid (∀ y : Ext ((w.alloc (.cells #[.int .i64 0, .int .i64 0] 56)).alloc (.cells #[.int .i64 d, .int .i64 5, .int .i64 a, .int .i64 b] 37)), Step w ⟨g, lv, fv⟩ y.1 ⟨g, lv, fv⟩) := Lib.hid fun y => (((Step.refl w _).alloc _).alloc _).trans (Step.ext _ y)
    have ll : ∀ y : Ext ((w.alloc (.cells #[.int .i64 0, .int .i64 0] 56)).alloc (.cells #[.int .i64 d, .int .i64 5, .int .i64 a, .int .i64 b] 37)), w.heap.size + 1 < y.1.heap.size := fun y => (HBL.out y).lt
    have l1 : ∀ y : Ext ((w.alloc (.cells #[.int .i64 0, .int .i64 0] 56)).alloc (.cells #[.int .i64 d, .int .i64 5, .int .i64 a, .int .i64 b] 37)), y.1.cell? ⟨w.heap.size + 1, 1, none⟩ = some (.int .i64 5) := fun y => (HBL.out y).cell 1
    have l2 : ∀ y : Ext ((w.alloc (.cells #[.int .i64 0, .int .i64 0] 56)).alloc (.cells #[.int .i64 d, .int .i64 5, .int .i64 a, .int .i64 b] 37)), y.1.cell? ⟨w.heap.size + 1, 2, none⟩ = some (.int .i64 a) := fun y => (HBL.out y).cell 2
    have l3 : ∀ y : Ext ((w.alloc (.cells #[.int .i64 0, .int .i64 0] 56)).alloc (.cells #[.int .i64 d, .int .i64 5, .int .i64 a, .int .i64 b] 37)), y.1.cell? ⟨w.heap.size + 1, 3, none⟩ = some (.int .i64 b) := fun y => (HBL.out y).cell 3
    have e0 : ∀ (y : Ext ((w.alloc (.cells #[.int .i64 0, .int .i64 0] 56)).alloc (.cells #[.int .i64 d, .int .i64 5, .int .i64 a, .int .i64 b] 37))) (j : Nat), y.1.frozen? ⟨w.heap.size, j, none⟩ = false := fun y j => (HBK.out y).frozen j
    have e1 : ∀ (y : Ext ((w.alloc (.cells #[.int .i64 0, .int .i64 0] 56)).alloc (.cells #[.int .i64 d, .int .i64 5, .int .i64 a, .int .i64 b] 37))), y.1.cell? ⟨w.heap.size, 0, none⟩ = some (.int .i64 0) := fun y => (HBK.out y).cell 0
    have e2 : ∀ (y : Ext ((w.alloc (.cells #[.int .i64 0, .int .i64 0] 56)).alloc (.cells #[.int .i64 d, .int .i64 5, .int .i64 a, .int .i64 b] 37))), y.1.cell? ⟨w.heap.size, 1, none⟩ = some (.int .i64 0) := fun y => (HBK.out y).cell 1
    have hf' : decide (s.first < 0) = false := decide_eq_false hf
    clear g0 g1 g2 g3 cp cl c1 f2
    go_enter Try.func55, Try.ntmps55
    go_wp2_with (go_at_call 88; refine (calls_ext0 (W := ((w.alloc (.cells #[.int .i64 0, .int .i64 0] 56)).alloc (.cells #[.int .i64 d, .int .i64 5, .int .i64 a, .int .i64 b] 37))) (jumps_calls ⟨d, 5, a, b⟩ _)).mono ?_; rw [show jumps 5 = true from rfl]; rintro e w1 ⟨rfl, y, rfl⟩)
    refine bodyPost_ret (results_cell_row rfl _ _ w.heap.size 56 #[.int .i64 3, .int .i64 0] (0, 0) _ rfl ((HBK.out y).set2 _ _) Try.underlying56 rfl (by kernel_rfl)) rfl ?_
    have e : lineR E.p B i hd s = (⟨3, 0⟩, s) := by rw [lineR_5 HX.out.symm, markR_no HX.out.symm (by omega)]
    exact mret_of (HM.out y) (HST.out y) rfl (HBK.out y) hgl H.out.ge (by rw [e]) (by rw [e]) (by rw [e])
set_option maxHeartbeats 4000000 in
set_option maxRecDepth 100000 in
theorem line_6 (E : Env) (B : Ru) (i : Nat) (hd : Int) (s : St) (m : M) (w : World) (hi : i < E.p.length) (h : Mach E w m s) (hk : (ln E.p i).kind = 6) :
    Calls Try.prog 55 #[.pointer (some ⟨m.g, 0, none⟩), .int .i64 i, .int .i64 hd] w (MRet E w m (lineR E.p B i hd s)) := by
  by_cases hf : s.first < 0
  · obtain ⟨g, lv, fv⟩ := m
    obtain ⟨hgl, -, cp, cl, -, c1, f2, -⟩ := h.face
    obtain ⟨ad, hA, hab, g0, g1, g2, g3⟩ := h.p.line hi
    have HA := Lib.hid hA
    rw [hA] at cp
    obtain ⟨x, hx⟩ : ∃ x, x = ln E.p i := ⟨_, rfl⟩
    rw [← hx] at g0 g1 g2 g3 hk
    obtain ⟨d, k, a, b⟩ := x
    simp only [] at g0 g1 g2 g3 hk
    subst hk
    have HX := Lib.hid hx
    have H := Lib.hid h
    obtain ⟨n, hn⟩ : ∃ n, n = E.p.length := ⟨_, rfl⟩
    rw [← hn] at cp hi
    have HN := Lib.hid hn
    clear hA hx h hn
    have q0 := cell_alloc' (.cells #[.int .i64 0, .int .i64 0] 56) g0
    have q1 := cell_alloc' (.cells #[.int .i64 0, .int .i64 0] 56) g1
    have q2 := cell_alloc' (.cells #[.int .i64 0, .int .i64 0] 56) g2
    have q3 := cell_alloc' (.cells #[.int .i64 0, .int .i64 0] 56) g3
    have qp := cell_alloc' (.cells #[.int .i64 0, .int .i64 0] 56) cp
    have HM : Hid (∀ y : Ext ((w.alloc (.cells #[.int .i64 0, .int .i64 0] 56)).alloc (.cells #[.int .i64 d, .int .i64 6, .int .i64 a, .int .i64 b] 37)), Mach E y.1 ⟨g, lv, fv⟩ s) := Lib.hid fun y => ((H.out.alloc _).alloc _).ext y
    have gl : ∀ y : Ext ((w.alloc (.cells #[.int .i64 0, .int .i64 0] 56)).alloc (.cells #[.int .i64 d, .int .i64 6, .int .i64 a, .int .i64 b] 37)), g < y.1.heap.size := fun y => y.lt (by simp; omega)
    have y1 : ∀ y : Ext ((w.alloc (.cells #[.int .i64 0, .int .i64 0] 56)).alloc (.cells #[.int .i64 d, .int .i64 6, .int .i64 a, .int .i64 b] 37)), y.1.cell? ⟨g, 4, none⟩ = some (.int .i64 s.first) := fun y => (HM.out y).face.c1
    have y4 : ∀ y : Ext ((w.alloc (.cells #[.int .i64 0, .int .i64 0] 56)).alloc (.cells #[.int .i64 d, .int .i64 6, .int .i64 a, .int .i64 b] 37)), y.1.frozen? ⟨g, 4, none⟩ = false := fun y => (HM.out y).face.f4
    have HBK : Hid (∀ y : Ext ((w.alloc (.cells #[.int .i64 0, .int .i64 0] 56)).alloc (.cells #[.int .i64 d, .int .i64 6, .int .i64 a, .int .i64 b] 37)), Blk y.1 w.heap.size 56 #[.int .i64 0, .int .i64 0]) := Lib.hid fun y => ((Blk.new w _ _).alloc _).ext y
    have HBL : Hid (∀ y : Ext ((w.alloc (.cells #[.int .i64 0, .int .i64 0] 56)).alloc (.cells #[.int .i64 d, .int .i64 6, .int .i64 a, .int .i64 b] 37)), Blk y.1 (w.heap.size + 1) 37 #[.int .i64 d, .int .i64 6, .int .i64 a, .int .i64 b]) := Lib.hid fun y => (by have := Blk.new (w.alloc (.cells #[.int .i64 0, .int .i64 0] 56)) 37 #[.int .i64 d, .int .i64 6, .int .i64 a, .int .i64 b]; rw [show (w.alloc (.cells #[.int .i64 0, .int .i64 0] 56)).heap.size = w.heap.size + 1 from by simp] at this; exact this.ext y)
    have HST : Hid (∀ y : Ext ((w.alloc (.cells #[.int .i64 0, .int .i64 0] 56)).alloc (.cells #[.int .i64 d, .int .i64 6, .int .i64 a, .int .i64 b] 37)), Step w ⟨g, lv, fv⟩ y.1 ⟨g, lv, fv⟩) := Lib.hid fun y => (((Step.refl w _).alloc _).alloc _).trans (Step.ext _ y)
    have ll : ∀ y : Ext ((w.alloc (.cells #[.int .i64 0, .int .i64 0] 56)).alloc (.cells #[.int .i64 d, .int .i64 6, .int .i64 a, .int .i64 b] 37)), w.heap.size + 1 < y.1.heap.size := fun y => (HBL.out y).lt
    have l1 : ∀ y : Ext ((w.alloc (.cells #[.int .i64 0, .int .i64 0] 56)).alloc (.cells #[.int .i64 d, .int .i64 6, .int .i64 a, .int .i64 b] 37)), y.1.cell? ⟨w.heap.size + 1, 1, none⟩ = some (.int .i64 6) := fun y => (HBL.out y).cell 1
    have l2 : ∀ y : Ext ((w.alloc (.cells #[.int .i64 0, .int .i64 0] 56)).alloc (.cells #[.int .i64 d, .int .i64 6, .int .i64 a, .int .i64 b] 37)), y.1.cell? ⟨w.heap.size + 1, 2, none⟩ = some (.int .i64 a) := fun y => (HBL.out y).cell 2
    have l3 : ∀ y : Ext ((w.alloc (.cells #[.int .i64 0, .int .i64 0] 56)).alloc (.cells #[.int .i64 d, .int .i64 6, .int .i64 a, .int .i64 b] 37)), y.1.cell? ⟨w.heap.size + 1, 3, none⟩ = some (.int .i64 b) := fun y => (HBL.out y).cell 3
    have e0 : ∀ (y : Ext ((w.alloc (.cells #[.int .i64 0, .int .i64 0] 56)).alloc (.cells #[.int .i64 d, .int .i64 6, .int .i64 a, .int .i64 b] 37))) (j : Nat), y.1.frozen? ⟨w.heap.size, j, none⟩ = false := fun y j => (HBK.out y).frozen j
    have e1 : ∀ (y : Ext ((w.alloc (.cells #[.int .i64 0, .int .i64 0] 56)).alloc (.cells #[.int .i64 d, .int .i64 6, .int .i64 a, .int .i64 b] 37))), y.1.cell? ⟨w.heap.size, 0, none⟩ = some (.int .i64 0) := fun y => (HBK.out y).cell 0
    have e2 : ∀ (y : Ext ((w.alloc (.cells #[.int .i64 0, .int .i64 0] 56)).alloc (.cells #[.int .i64 d, .int .i64 6, .int .i64 a, .int .i64 b] 37))), y.1.cell? ⟨w.heap.size, 1, none⟩ = some (.int .i64 0) := fun y => (HBK.out y).cell 1
    have HMM : Hid (∀ y : Ext ((w.alloc (.cells #[.int .i64 0, .int .i64 0] 56)).alloc (.cells #[.int .i64 d, .int .i64 6, .int .i64 a, .int .i64 b] 37)), Mach E (y.1.setCell ⟨g, 4, none⟩ (.int .i64 i)) ⟨g, lv, fv⟩ { s with first := i }) := Lib.hid fun y => (HM.out y).setFirst i
    have HBM : Hid (∀ y : Ext ((w.alloc (.cells #[.int .i64 0, .int .i64 0] 56)).alloc (.cells #[.int .i64 d, .int .i64 6, .int .i64 a, .int .i64 b] 37)), Blk (y.1.setCell ⟨g, 4, none⟩ (.int .i64 i)) w.heap.size 56 #[.int .i64 0, .int .i64 0]) := Lib.hid fun y => Blk.far (HBK.out y) (by simp; omega) _
    have HLM : Hid (∀ y : Ext ((w.alloc (.cells #[.int .i64 0, .int .i64 0] 56)).alloc (.cells #[.int .i64 d, .int .i64 6, .int .i64 a, .int .i64 b] 37)), Blk (y.1.setCell ⟨g, 4, none⟩ (.int .i64 i)) (w.heap.size + 1) 37 #[.int .i64 d, .int .i64 6, .int .i64 a, .int .i64 b]) := Lib.hid fun y => Blk.far (HBL.out y) (by simp; omega) _
    have HSM : Hid (∀ y : Ext ((w.alloc (.cells #[.int .i64 0, .int .i64 0] 56)).alloc (.cells #[.int .i64 d, .int .i64 6, .int .i64 a, .int .i64 b] 37)), Step w ⟨g, lv, fv⟩ (y.1.setCell ⟨g, 4, none⟩ (.int .i64 i)) ⟨g, lv, fv⟩) := Lib.hid fun y => (HST.out y).setCell (.inr (.inl rfl)) _
    have m1 : ∀ y : Ext ((w.alloc (.cells #[.int .i64 0, .int .i64 0] 56)).alloc (.cells #[.int .i64 d, .int .i64 6, .int .i64 a, .int .i64 b] 37)), (y.1.setCell ⟨g, 4, none⟩ (.int .i64 i)).cell? ⟨w.heap.size + 1, 1, none⟩ = some (.int .i64 6) := fun y => (HLM.out y).cell 1
    have m2 : ∀ y : Ext ((w.alloc (.cells #[.int .i64 0, .int .i64 0] 56)).alloc (.cells #[.int .i64 d, .int .i64 6, .int .i64 a, .int .i64 b] 37)), (y.1.setCell ⟨g, 4, none⟩ (.int .i64 i)).cell? ⟨w.heap.size + 1, 2, none⟩ = some (.int .i64 a) := fun y => (HLM.out y).cell 2
    have m3 : ∀ y : Ext ((w.alloc (.cells #[.int .i64 0, .int .i64 0] 56)).alloc (.cells #[.int .i64 d, .int .i64 6, .int .i64 a, .int .i64 b] 37)), (y.1.setCell ⟨g, 4, none⟩ (.int .i64 i)).cell? ⟨w.heap.size + 1, 3, none⟩ = some (.int .i64 b) := fun y => (HLM.out y).cell 3
    have m4 : ∀ (y : Ext ((w.alloc (.cells #[.int .i64 0, .int .i64 0] 56)).alloc (.cells #[.int .i64 d, .int .i64 6, .int .i64 a, .int .i64 b] 37))) (j : Nat), (y.1.setCell ⟨g, 4, none⟩ (.int .i64 i)).frozen? ⟨w.heap.size, j, none⟩ = false := fun y j => (HBM.out y).frozen j
    have m5 : ∀ (y : Ext ((w.alloc (.cells #[.int .i64 0, .int .i64 0] 56)).alloc (.cells #[.int .i64 d, .int .i64 6, .int .i64 a, .int .i64 b] 37))), (y.1.setCell ⟨g, 4, none⟩ (.int .i64 i)).cell? ⟨w.heap.size, 0, none⟩ = some (.int .i64 0) := fun y => (HBM.out y).cell 0
    have m6 : ∀ (y : Ext ((w.alloc (.cells #[.int .i64 0, .int .i64 0] 56)).alloc (.cells #[.int .i64 d, .int .i64 6, .int .i64 a, .int .i64 b] 37))), (y.1.setCell ⟨g, 4, none⟩ (.int .i64 i)).cell? ⟨w.heap.size, 1, none⟩ = some (.int .i64 0) := fun y => (HBM.out y).cell 1
    have hf' : decide (s.first < 0) = true := decide_eq_true hf
    clear g0 g1 g2 g3 cp cl c1 f2
    go_enter Try.func55, Try.ntmps55
    go_wp2_with (go_at_call 88; refine (calls_ext0 (W := ((w.alloc (.cells #[.int .i64 0, .int .i64 0] 56)).alloc (.cells #[.int .i64 d, .int .i64 6, .int .i64 a, .int .i64 b] 37))) (jumps_calls ⟨d, 6, a, b⟩ _)).mono ?_; rw [show jumps 6 = true from rfl]; rintro e w1 ⟨rfl, y, rfl⟩)
    refine bodyPost_ret (results_cell_row rfl _ _ w.heap.size 56 #[.int .i64 4, .int .i64 0] (0, 0) _ rfl ((HBM.out y).set2 _ _) Try.underlying56 rfl (by kernel_rfl)) rfl ?_
    have e : lineR E.p B i hd s = (⟨4, 0⟩, { s with first := i }) := by rw [lineR_6 HX.out.symm, markR_yes HX.out.symm rfl hf]
    exact mret_of (HMM.out y) (HSM.out y) rfl (HBM.out y) hgl H.out.ge (by rw [e]) (by rw [e]) (by rw [e])
  · obtain ⟨g, lv, fv⟩ := m
    obtain ⟨hgl, -, cp, cl, -, c1, f2, -⟩ := h.face
    obtain ⟨ad, hA, hab, g0, g1, g2, g3⟩ := h.p.line hi
    have HA := Lib.hid hA
    rw [hA] at cp
    obtain ⟨x, hx⟩ : ∃ x, x = ln E.p i := ⟨_, rfl⟩
    rw [← hx] at g0 g1 g2 g3 hk
    obtain ⟨d, k, a, b⟩ := x
    simp only [] at g0 g1 g2 g3 hk
    subst hk
    have HX := Lib.hid hx
    have H := Lib.hid h
    obtain ⟨n, hn⟩ : ∃ n, n = E.p.length := ⟨_, rfl⟩
    rw [← hn] at cp hi
    have HN := Lib.hid hn
    clear hA hx h hn
    have q0 := cell_alloc' (.cells #[.int .i64 0, .int .i64 0] 56) g0
    have q1 := cell_alloc' (.cells #[.int .i64 0, .int .i64 0] 56) g1
    have q2 := cell_alloc' (.cells #[.int .i64 0, .int .i64 0] 56) g2
    have q3 := cell_alloc' (.cells #[.int .i64 0, .int .i64 0] 56) g3
    have qp := cell_alloc' (.cells #[.int .i64 0, .int .i64 0] 56) cp
    have HM : Hid (∀ y : Ext ((w.alloc (.cells #[.int .i64 0, .int .i64 0] 56)).alloc (.cells #[.int .i64 d, .int .i64 6, .int .i64 a, .int .i64 b] 37)), Mach E y.1 ⟨g, lv, fv⟩ s) := Lib.hid fun y => ((H.out.alloc _).alloc _).ext y
    have gl : ∀ y : Ext ((w.alloc (.cells #[.int .i64 0, .int .i64 0] 56)).alloc (.cells #[.int .i64 d, .int .i64 6, .int .i64 a, .int .i64 b] 37)), g < y.1.heap.size := fun y => y.lt (by simp; omega)
    have y1 : ∀ y : Ext ((w.alloc (.cells #[.int .i64 0, .int .i64 0] 56)).alloc (.cells #[.int .i64 d, .int .i64 6, .int .i64 a, .int .i64 b] 37)), y.1.cell? ⟨g, 4, none⟩ = some (.int .i64 s.first) := fun y => (HM.out y).face.c1
    have y4 : ∀ y : Ext ((w.alloc (.cells #[.int .i64 0, .int .i64 0] 56)).alloc (.cells #[.int .i64 d, .int .i64 6, .int .i64 a, .int .i64 b] 37)), y.1.frozen? ⟨g, 4, none⟩ = false := fun y => (HM.out y).face.f4
    have HBK : Hid (∀ y : Ext ((w.alloc (.cells #[.int .i64 0, .int .i64 0] 56)).alloc (.cells #[.int .i64 d, .int .i64 6, .int .i64 a, .int .i64 b] 37)), Blk y.1 w.heap.size 56 #[.int .i64 0, .int .i64 0]) := Lib.hid fun y => ((Blk.new w _ _).alloc _).ext y
    have HBL : Hid (∀ y : Ext ((w.alloc (.cells #[.int .i64 0, .int .i64 0] 56)).alloc (.cells #[.int .i64 d, .int .i64 6, .int .i64 a, .int .i64 b] 37)), Blk y.1 (w.heap.size + 1) 37 #[.int .i64 d, .int .i64 6, .int .i64 a, .int .i64 b]) := Lib.hid fun y => (by have := Blk.new (w.alloc (.cells #[.int .i64 0, .int .i64 0] 56)) 37 #[.int .i64 d, .int .i64 6, .int .i64 a, .int .i64 b]; rw [show (w.alloc (.cells #[.int .i64 0, .int .i64 0] 56)).heap.size = w.heap.size + 1 from by simp] at this; exact this.ext y)
    have HST : Hid (∀ y : Ext ((w.alloc (.cells #[.int .i64 0, .int .i64 0] 56)).alloc (.cells #[.int .i64 d, .int .i64 6, .int .i64 a, .int .i64 b] 37)), Step w ⟨g, lv, fv⟩ y.1 ⟨g, lv, fv⟩) := Lib.hid fun y => (((Step.refl w _).alloc _).alloc _).trans (Step.ext _ y)
    have ll : ∀ y : Ext ((w.alloc (.cells #[.int .i64 0, .int .i64 0] 56)).alloc (.cells #[.int .i64 d, .int .i64 6, .int .i64 a, .int .i64 b] 37)), w.heap.size + 1 < y.1.heap.size := fun y => (HBL.out y).lt
    have l1 : ∀ y : Ext ((w.alloc (.cells #[.int .i64 0, .int .i64 0] 56)).alloc (.cells #[.int .i64 d, .int .i64 6, .int .i64 a, .int .i64 b] 37)), y.1.cell? ⟨w.heap.size + 1, 1, none⟩ = some (.int .i64 6) := fun y => (HBL.out y).cell 1
    have l2 : ∀ y : Ext ((w.alloc (.cells #[.int .i64 0, .int .i64 0] 56)).alloc (.cells #[.int .i64 d, .int .i64 6, .int .i64 a, .int .i64 b] 37)), y.1.cell? ⟨w.heap.size + 1, 2, none⟩ = some (.int .i64 a) := fun y => (HBL.out y).cell 2
    have l3 : ∀ y : Ext ((w.alloc (.cells #[.int .i64 0, .int .i64 0] 56)).alloc (.cells #[.int .i64 d, .int .i64 6, .int .i64 a, .int .i64 b] 37)), y.1.cell? ⟨w.heap.size + 1, 3, none⟩ = some (.int .i64 b) := fun y => (HBL.out y).cell 3
    have e0 : ∀ (y : Ext ((w.alloc (.cells #[.int .i64 0, .int .i64 0] 56)).alloc (.cells #[.int .i64 d, .int .i64 6, .int .i64 a, .int .i64 b] 37))) (j : Nat), y.1.frozen? ⟨w.heap.size, j, none⟩ = false := fun y j => (HBK.out y).frozen j
    have e1 : ∀ (y : Ext ((w.alloc (.cells #[.int .i64 0, .int .i64 0] 56)).alloc (.cells #[.int .i64 d, .int .i64 6, .int .i64 a, .int .i64 b] 37))), y.1.cell? ⟨w.heap.size, 0, none⟩ = some (.int .i64 0) := fun y => (HBK.out y).cell 0
    have e2 : ∀ (y : Ext ((w.alloc (.cells #[.int .i64 0, .int .i64 0] 56)).alloc (.cells #[.int .i64 d, .int .i64 6, .int .i64 a, .int .i64 b] 37))), y.1.cell? ⟨w.heap.size, 1, none⟩ = some (.int .i64 0) := fun y => (HBK.out y).cell 1
    have hf' : decide (s.first < 0) = false := decide_eq_false hf
    clear g0 g1 g2 g3 cp cl c1 f2
    go_enter Try.func55, Try.ntmps55
    go_wp2_with (go_at_call 88; refine (calls_ext0 (W := ((w.alloc (.cells #[.int .i64 0, .int .i64 0] 56)).alloc (.cells #[.int .i64 d, .int .i64 6, .int .i64 a, .int .i64 b] 37))) (jumps_calls ⟨d, 6, a, b⟩ _)).mono ?_; rw [show jumps 6 = true from rfl]; rintro e w1 ⟨rfl, y, rfl⟩)
    refine bodyPost_ret (results_cell_row rfl _ _ w.heap.size 56 #[.int .i64 4, .int .i64 0] (0, 0) _ rfl ((HBK.out y).set2 _ _) Try.underlying56 rfl (by kernel_rfl)) rfl ?_
    have e : lineR E.p B i hd s = (⟨4, 0⟩, s) := by rw [lineR_6 HX.out.symm, markR_no HX.out.symm (by omega)]
    exact mret_of (HM.out y) (HST.out y) rfl (HBK.out y) hgl H.out.ge (by rw [e]) (by rw [e]) (by rw [e])
end Go.Proofs.Ytihjakpedbaokaa.K
