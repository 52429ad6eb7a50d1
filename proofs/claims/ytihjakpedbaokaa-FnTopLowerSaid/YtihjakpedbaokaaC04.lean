/- Words: what a walk of the machine reads; what it hands back. -/
import Derived.Test.YtihjakpedbaokaaC03
import Derived.Deep.CutRange
namespace Go.Proofs.Ytihjakpedbaokaa.K
open Go Go.RowKit

structure EnvOk (E : Env) : Prop where
  len : E.p.length ≤ 24
  tl : E.t.length ≤ 8
  vt : validTree E.t = true
  arg : ∀ i, i < E.p.length → argued E.t.length (ln E.p i) = true
  dep : ∀ i, i < E.p.length → 0 ≤ (ln E.p i).depth ∧ (ln E.p i).depth ≤ 5
section
variable {p : Prg} {B : Ru} {i : Nat} {hd d a b : Int} {s : St}
theorem lineR_1 (h : ln p i = ⟨d, 1, a, b⟩) : lineR p B i hd s = (⟨0, 0⟩, tell (markR p i s) a) := by unfold lineR lineGo; rw [h]; rfl
theorem lineR_2 (h : ln p i = ⟨d, 2, a, b⟩) : lineR p B i hd s = (⟨2, (markR p i s).flt.length⟩, toss (markR p i s) a b hd) := by unfold lineR lineGo; rw [h]; rfl
theorem lineR_3y (h : ln p i = ⟨d, 3, a, b⟩) (h0 : hd < 0) : lineR p B i hd s = (⟨2, (markR p i s).flt.length⟩, toss (markR p i s) 0 0 (-1)) := by
  have : lineR p B i hd s = if hd < 0 then (⟨2, (markR p i s).flt.length⟩, toss (markR p i s) 0 0 (-1)) else (⟨2, hd⟩, markR p i s) := by unfold lineR lineGo; rw [h]; rfl
  rw [this, if_pos h0]
theorem lineR_3n (h : ln p i = ⟨d, 3, a, b⟩) (h0 : ¬ hd < 0) : lineR p B i hd s = (⟨2, hd⟩, markR p i s) := by
  have : lineR p B i hd s = if hd < 0 then (⟨2, (markR p i s).flt.length⟩, toss (markR p i s) 0 0 (-1)) else (⟨2, hd⟩, markR p i s) := by unfold lineR lineGo; rw [h]; rfl
  rw [this, if_neg h0]
theorem lineR_4 (h : ln p i = ⟨d, 4, a, b⟩) : lineR p B i hd s = (⟨1, a⟩, markR p i s) := by unfold lineR lineGo; rw [h]; rfl
theorem lineR_5 (h : ln p i = ⟨d, 5, a, b⟩) : lineR p B i hd s = (⟨3, 0⟩, markR p i s) := by unfold lineR lineGo; rw [h]; rfl
theorem lineR_6 (h : ln p i = ⟨d, 6, a, b⟩) : lineR p B i hd s = (⟨4, 0⟩, markR p i s) := by unfold lineR lineGo; rw [h]; rfl
theorem lineR_11 (h : ln p i = ⟨d, 11, a, b⟩) : lineR p B i hd s = (if (B i hd (tell s (100 + a))).1.e = 2 ∧ b = 1 then ⟨0, 0⟩ else (B i hd (tell s (100 + a))).1, tell (B i hd (tell s (100 + a))).2 (200 + a)) := by
  have e : markR p i s = s := by unfold markR; rw [h]; rfl
  unfold lineR lineGo; rw [e, h]; rfl
theorem lineR_12 (h : ln p i = ⟨d, 12, a, b⟩) : lineR p B i hd s = loopR (B i hd) a.toNat s := by
  have e : markR p i s = s := by unfold markR; rw [h]; rfl
  unfold lineR lineGo; rw [e, h]; rfl
theorem markR_yes {k : Int} (h : ln p i = ⟨d, k, a, b⟩) (hj : jumps k = true) (hf : s.first < 0) : markR p i s = { s with first := i } := by unfold markR; rw [h, if_pos ⟨hj, hf⟩]
theorem markR_no {k : Int} (h : ln p i = ⟨d, k, a, b⟩) (hf : ¬ s.first < 0) : markR p i s = s := by unfold markR; rw [h, if_neg (fun x => hf x.2)]
end
/-- What a method of the machine hands back. -/
def MRet (E : Env) (w : World) (m : M) (x : En × St) (e : Ending) (w' : World) : Prop :=
  ∃ m', e = .returned (.agg #[.int .i64 x.1.e, .int .i64 x.1.v]) ∧ Mach E w' m' x.2 ∧ Step w m w' m' ∧ m'.g = m.g
/-- The contract of machine.block, for the blocks for which ok holds. -/
def BCalls (E : Env) (ok : Nat → Prop) (B : Ru) : Prop :=
  ∀ (i : Nat) (hd : Int) (s : St) (m : M) (w : World), ok i → Mach E w m s → SOk E.t.length s → -1 ≤ hd → hd < s.flt.length → (B i hd s).2.log.length ≤ 1099511627776 → (B i hd s).2.flt.length ≤ 1099511627776 →
    Calls Try.prog 86 #[.pointer (some ⟨m.g, 0, none⟩), .int .i64 i, .int .i64 hd] w (MRet E w m (B i hd s))

/-- What a walk reads off the machine. -/
structure Face (E : Env) (w : World) (g : Nat) (lv fv : Value) (first : Int) : Prop where
  lt : g < w.heap.size
  ct : w.cell? ⟨g, 0, none⟩ = some (.slice E.At E.t.length E.nt)
  cp : w.cell? ⟨g, 1, none⟩ = some (.slice E.A E.p.length E.c)
  cl : w.cell? ⟨g, 2, none⟩ = some lv
  cf : w.cell? ⟨g, 3, none⟩ = some fv
  c1 : w.cell? ⟨g, 4, none⟩ = some (.int .i64 first)
  f2 : w.frozen? ⟨g, 2, none⟩ = false
  f4 : w.frozen? ⟨g, 4, none⟩ = false
theorem Mach.face {E : Env} {w : World} {g : Nat} {lv fv : Value} {s : St} (h : Mach E w ⟨g, lv, fv⟩ s) : Face E w g lv fv s.first :=
  ⟨h.blk.lt, by have := h.blk.cell 0; simpa using this, by have := h.blk.cell 1; simpa using this, by have := h.blk.cell 2; simpa using this, by have := h.blk.cell 3; simpa using this, by have := h.blk.cell 4; simpa using this, h.blk.frozen 2, h.blk.frozen 4⟩

theorem Mach.drew {E : Env} {w : World} {m : M} {s : St} (h : Mach E w m s) : Mach E w.drew m s := ⟨h.blk, h.ge, h.log, h.flt, h.p, h.pb, h.t, h.tb⟩
theorem Mach.notBlk {E : Env} {w : World} {m : M} {s : St} {b : Nat} {T : TypeId} {cs : Array Value} (h : Mach E w m s) (hb : Blk w b T cs) (h1 : T ≠ 72) (h2 : T ≠ 3) (h3 : T ≠ 59) : ¬ m.blk b := by
  unfold Blk at hb
  rintro (rfl | hx | hx)
  · have := h.blk; unfold Blk at this; rw [hb] at this; cases this; exact h1 rfl
  · obtain ⟨_, hc⟩ := own_type h.log hx; rw [hb] at hc; cases hc; exact h2 rfl
  · obtain ⟨_, hc⟩ := own_type h.flt hx; rw [hb] at hc; cases hc; exact h3 rfl
theorem Blk.set2 {w : World} {g : Nat} {t : TypeId} {x0 x1 : Value} (h : Blk w g t #[x0, x1]) (u0 u1 : Value) : Blk ((w.setCell ⟨g, 0, none⟩ u0).setCell ⟨g, 1, none⟩ u1) g t #[u0, u1] := by
  have := (h.set_ 0 u0).set_ 1 u1
  simpa using this
/-- The ending that a method of the machine has stored in its result. -/
theorem mret_of {E : Env} {w w' : World} {m m' : M} {x : En × St} {s' : St} {v0 v1 : Value} (hM : Mach E w' m' s') (hS : Step w m w' m') (hg : m'.g = m.g) (hb : Blk w' w.heap.size 56 #[v0, v1]) (hm : m.g < w.heap.size) (hE : E.base ≤ m.g) (hs : s' = x.2) {u0 u1 : Value} (h0 : u0 = .int .i64 x.1.e) (h1 : u1 = .int .i64 x.1.v) :
    MRet E w m x (.returned (.agg #[u0, u1])) ((w'.setCell ⟨w.heap.size, 0, none⟩ u0).setCell ⟨w.heap.size, 1, none⟩ u1) := by
  have hn := hM.notBlk hb (by decide) (by decide) (by decide)
  subst h0 h1 hs
  exact ⟨m', rfl, (hM.setCell hn (by show _ ≤ w.heap.size; omega) _).setCell hn (by show _ ≤ w.heap.size; omega) _, (hS.setCell (.inl (Nat.le_refl _)) _).setCell (.inl (Nat.le_refl _)) _, hg⟩

/-- The last statement of a sequence, as if one more followed. -/
theorem wp_last {P : Program} {c : Code} {Q : Exit → Act → World → Prop} {a : Act} {w : World} (h : ∀ K : Act → World → Prop, (∀ a' w', Q .normal a' w' → K a' w') → c.wp P (Exit.then K (fun _ _ _ => False)) a w) : c.wp P Q a w :=
  wp_mono (h (Q .normal) (fun _ _ q => q)) fun e a' w' hq => by
    cases e with
    | normal => exact hq
    | exit id => exact False.elim hq
    | goto l => exact False.elim hq
    | ret => exact False.elim hq
    | panic ch => exact False.elim hq
    | outgrown => exact False.elim hq
end Go.Proofs.Ytihjakpedbaokaa.K
namespace Go.Proofs.Ytihjakpedbaokaa.K
open Go Go.RowKit
set_option maxHeartbeats 4000000 in
set_option maxRecDepth 100000 in
theorem line_log (E : Env) (B : Ru) (i : Nat) (hd : Int) (s : St) (m : M) (w : World) (hi : i < E.p.length) (h : Mach E w m s) (hk : (ln E.p i).kind = 1) (hl : s.log.length ≤ 1099511627776) :
    Calls Try.prog 55 #[.pointer (some ⟨m.g, 0, none⟩), .int .i64 i, .int .i64 hd] w (MRet E w m (lineR E.p B i hd s)) := by
  obtain ⟨g, lv, fv⟩ := m
  obtain ⟨hgl, -, cp, cl, -, c1, f2, -⟩ := h.face
  obtain ⟨ad, hA, hab, g0, g1, g2, g3⟩ := h.p.line hi
  have HA := Lib.hid hA
  rw [hA] at cp
  obtain ⟨x, hx⟩ : ∃ x, x = ln E.p i := ⟨_, rfl⟩
  rw [← hx] at g0 g1 g2 g3 hk
  obtain ⟨d, k, a, b⟩ := x
  simp only [] at g0 g1 g2 g3 hk
  subst hk
  have HX := Lib.hid hx
  have H := Lib.hid h
  obtain ⟨n, hn⟩ : ∃ n, n = E.p.length := ⟨_, rfl⟩
  rw [← hn] at cp hi
  have HN := Lib.hid hn
  clear hA hx h hn
  have q0 := cell_alloc' (.cells #[.int .i64 0, .int .i64 0] 56) g0
  have q1 := cell_alloc' (.cells #[.int .i64 0, .int .i64 0] 56) g1
  have q2 := cell_alloc' (.cells #[.int .i64 0, .int .i64 0] 56) g2
  have q3 := cell_alloc' (.cells #[.int .i64 0, .int .i64 0] 56) g3
  have qp := cell_alloc' (.cells #[.int .i64 0, .int .i64 0] 56) cp
  have HM : Hid (∀ y : Ext ((w.alloc (.cells #[.int .i64 0, .int .i64 0] 56)).alloc (.cells #[.int .i64 d, .int .i64 1, .int .i64 a, .int .i64 b] 37)), Mach E y.1 ⟨g, lv, fv⟩ s) := Lib.hid fun y => ((H.out.alloc _).alloc _).ext y
  have gl : ∀ y : Ext ((w.alloc (.cells #[.int .i64 0, .int .i64 0] 56)).alloc (.cells #[.int .i64 d, .int .i64 1, .int .i64 a, .int .i64 b] 37)), g < y.1.heap.size := fun y => y.lt (by simp; omega)
  have y1 : ∀ y : Ext ((w.alloc (.cells #[.int .i64 0, .int .i64 0] 56)).alloc (.cells #[.int .i64 d, .int .i64 1, .int .i64 a, .int .i64 b] 37)), y.1.cell? ⟨g, 4, none⟩ = some (.int .i64 s.first) := fun y => (HM.out y).face.c1
  have y4 : ∀ y : Ext ((w.alloc (.cells #[.int .i64 0, .int .i64 0] 56)).alloc (.cells #[.int .i64 d, .int .i64 1, .int .i64 a, .int .i64 b] 37)), y.1.frozen? ⟨g, 4, none⟩ = false := fun y => (HM.out y).face.f4
  have HBK : Hid (∀ y : Ext ((w.alloc (.cells #[.int .i64 0, .int .i64 0] 56)).alloc (.cells #[.int .i64 d, .int .i64 1, .int .i64 a, .int .i64 b] 37)), Blk y.1 w.heap.size 56 #[.int .i64 0, .int .i64 0]) := Lib.hid fun y => ((Blk.new w _ _).alloc _).ext y
  have HBL : Hid (∀ y : Ext ((w.alloc (.cells #[.int .i64 0, .int .i64 0] 56)).alloc (.cells #[.int .i64 d, .int .i64 1, .int .i64 a, .int .i64 b] 37)), Blk y.1 (w.heap.size + 1) 37 #[.int .i64 d, .int .i64 1, .int .i64 a, .int .i64 b]) := Lib.hid fun y => (by have := Blk.new (w.alloc (.cells #[.int .i64 0, .int .i64 0] 56)) 37 #[.int .i64 d, .int .i64 1, .int .i64 a, .int .i64 b]; rw [show (w.alloc (.cells #[.int .i64 0, .int .i64 0] 56)).heap.size = w.heap.size + 1 from by simp] at this; exact this.ext y)
  have HST : Hid (∀ y : Ext ((w.alloc (.cells #[.int .i64 0, .int .i64 0] 56)).alloc (.cells #[.int .i64 d, .int .i64 1, .int .i64 a, .int .i64 b] 37)), Step w ⟨g, lv, fv⟩ y.1 ⟨g, lv, fv⟩) := Lib.hid fun y => (((Step.refl w _).alloc _).alloc _).trans (Step.ext _ y)
  have ll : ∀ y : Ext ((w.alloc (.cells #[.int .i64 0, .int .i64 0] 56)).alloc (.cells #[.int .i64 d, .int .i64 1, .int .i64 a, .int .i64 b] 37)), w.heap.size + 1 < y.1.heap.size := fun y => (HBL.out y).lt
  have l1 : ∀ y : Ext ((w.alloc (.cells #[.int .i64 0, .int .i64 0] 56)).alloc (.cells #[.int .i64 d, .int .i64 1, .int .i64 a, .int .i64 b] 37)), y.1.cell? ⟨w.heap.size + 1, 1, none⟩ = some (.int .i64 1) := fun y => (HBL.out y).cell 1
  have l2 : ∀ y : Ext ((w.alloc (.cells #[.int .i64 0, .int .i64 0] 56)).alloc (.cells #[.int .i64 d, .int .i64 1, .int .i64 a, .int .i64 b] 37)), y.1.cell? ⟨w.heap.size + 1, 2, none⟩ = some (.int .i64 a) := fun y => (HBL.out y).cell 2
  have l3 : ∀ y : Ext ((w.alloc (.cells #[.int .i64 0, .int .i64 0] 56)).alloc (.cells #[.int .i64 d, .int .i64 1, .int .i64 a, .int .i64 b] 37)), y.1.cell? ⟨w.heap.size + 1, 3, none⟩ = some (.int .i64 b) := fun y => (HBL.out y).cell 3
  have e0 : ∀ (y : Ext ((w.alloc (.cells #[.int .i64 0, .int .i64 0] 56)).alloc (.cells #[.int .i64 d, .int .i64 1, .int .i64 a, .int .i64 b] 37))) (j : Nat), y.1.frozen? ⟨w.heap.size, j, none⟩ = false := fun y j => (HBK.out y).frozen j
  have e1 : ∀ (y : Ext ((w.alloc (.cells #[.int .i64 0, .int .i64 0] 56)).alloc (.cells #[.int .i64 d, .int .i64 1, .int .i64 a, .int .i64 b] 37))), y.1.cell? ⟨w.heap.size, 0, none⟩ = some (.int .i64 0) := fun y => (HBK.out y).cell 0
  have e2 : ∀ (y : Ext ((w.alloc (.cells #[.int .i64 0, .int .i64 0] 56)).alloc (.cells #[.int .i64 d, .int .i64 1, .int .i64 a, .int .i64 b] 37))), y.1.cell? ⟨w.heap.size, 1, none⟩ = some (.int .i64 0) := fun y => (HBK.out y).cell 1
  clear g0 g1 g2 g3 cp cl c1 f2
  go_enter Try.func55, Try.ntmps55
  go_upto_region 6 with (go_at_call 88; refine (calls_ext0 (W := ((w.alloc (.cells #[.int .i64 0, .int .i64 0] 56)).alloc (.cells #[.int .i64 d, .int .i64 1, .int .i64 a, .int .i64 b] 37))) (jumps_calls ⟨d, 1, a, b⟩ _)).mono ?_; rw [show jumps 1 = false from rfl]; rintro e w1 ⟨rfl, y, rfl⟩)
  have hMz := HM.out y
  have hBz := HBK.out y
  have hSz := HST.out y
  have zg := gl y
  have zl := (HM.out y).face.cl
  have z2 := l2 y
  generalize y.1 = wz at hMz hBz hSz zg zl z2 ⊢
  have zw : w.heap.size < wz.heap.size := hBz.lt
  have HMz := Lib.hid hMz
  have HBz := Lib.hid hBz
  have HSz := Lib.hid hSz
  clear hMz hBz hSz HM gl y1 l1 l2 l3 HBK HST y4 HBL ll e0 e1 e2
  refine wp_last fun K hK => ?_
  go_cut [] from 34 to 44 (fun wx => ∃ lv', Hid (Mach E wx ⟨g, lv', fv⟩ (tell s a)) ∧ Hid (Step w ⟨g, lv, fv⟩ wx ⟨g, lv', fv⟩) ∧ Hid (Blk wx w.heap.size 56 #[.int .i64 0, .int .i64 0]))
  case first =>
    go_region_law ((refine step_append_elem2 elemInt rfl (.tmp 38) (.tmp 41) rfl (v := lv) (base := E.base) (E := 3) (enc := encI) (k := 1) (xs := s.log) rfl ((HMz.out.log.alloc _).drew) a ⟨wz.heap.size, 0, none⟩ 1 rfl rfl (fun j u hj => by match j, hj with | 0, hj => simp [encI] at hj; subst hj; simp [Addr.add]) (fun u hu => by simp [encI] at hu; subst hu; rfl) (by omega) (by omega) (by have := HMz.out.ge; simp only [] at this; show _ ≤ (World.alloc _ _).heap.size; simp; omega) ?_; intro v1 w2 ho1 hg1 hn1; have hm2 := (hg1.block g (by show _ < (World.alloc _ _).heap.size; simp; omega) (fun e => HMz.out.lv_ne e.symm)).trans (HMz.out.alloc _).blk; have hb2 := (hg1.block w.heap.size (by show _ < (World.alloc _ _).heap.size; simp; omega) (fun e => (fun e => by have := (H.out.log.lt w.heap.size e.symm).2; omega) e)).trans (HBz.out.alloc _); have hc2 := Blk.cell hm2 2; have hf2 := Blk.frozen hm2 2; have hl2 := Blk.lt hm2; simp only [] at hc2; obtain ⟨A1, c1, rfl, -, -, -⟩ := ho1.form encI_len; simp only [List.length_append, List.length_cons, List.length_nil, Nat.zero_add] at ho1 hn1; have HO1 := Lib.hid ho1; have HG1 := Lib.hid hg1; have HN1 := Lib.hid hn1; have HB2 := Lib.hid hb2; clear ho1 hg1 hn1 hm2 hb2))
    all_goals (
      try go_wp2
      go_meet
      case rel => exact ⟨_, Lib.hid (Mach.setLog (HMz.out.alloc _).drew HO1.out HG1.out HN1.out), Lib.hid (((HSz.out.alloc _).drew.grownL HG1.out HN1.out).setCell (.inr (.inl rfl)) _), Lib.hid (Blk.far HB2.out (by simp; omega) _)⟩)
  case rest =>
    obtain ⟨lv', HM3, HS3, HB3⟩ := hcut
    have e0 := HB3.out.cell 0
    have e1 := HB3.out.cell 1
    have e2 := HB3.out.frozen 0
    have e3 := HB3.out.frozen 1
    have e4 := HB3.out.lt
    go_wp2
    refine bodyPost_ret (results_cell_row rfl _ _ w.heap.size 56 #[.int .i64 0, .int .i64 0] (0, 0) _ rfl (HB3.out.set2 _ _) Try.underlying56 rfl (by kernel_rfl)) rfl ?_
    exact mret_of HM3.out HS3.out rfl HB3.out hgl H.out.ge (by unfold lineR lineGo markR; simp only []; rw [← HX.out]; rfl) (by unfold lineR lineGo; rw [← HX.out]; rfl) (by unfold lineR lineGo; rw [← HX.out]; rfl)
set_option maxHeartbeats 4000000 in
set_option maxRecDepth 100000 in
theorem line_pass (E : Env) (B : Ru) (i : Nat) (hd : Int) (s : St) (m : M) (w : World) (hi : i < E.p.length) (h : Mach E w m s) (hk : ∀ j : Int, (j = 1 ∨ j = 2 ∨ j = 3 ∨ j = 4 ∨ j = 5 ∨ j = 6 ∨ j = 11 ∨ j = 12) → (ln E.p i).kind ≠ j) :
    Calls Try.prog 55 #[.pointer (some ⟨m.g, 0, none⟩), .int .i64 i, .int .i64 hd] w (MRet E w m (lineR E.p B i hd s)) := by
  obtain ⟨g, lv, fv⟩ := m
  obtain ⟨hgl, -, cp, cl, -, c1, f2, -⟩ := h.face
  obtain ⟨ad, hA, hab, g0, g1, g2, g3⟩ := h.p.line hi
  have HA := Lib.hid hA
  rw [hA] at cp
  obtain ⟨x, hx⟩ : ∃ x, x = ln E.p i := ⟨_, rfl⟩
  rw [← hx] at g0 g1 g2 g3 hk
  obtain ⟨d, k, a, b⟩ := x
  simp only [] at g0 g1 g2 g3 hk
  have k1 : (k == 1) = false := beq_eq_false_iff_ne.mpr (hk 1 (by simp))
  have k2 : (k == 2) = false := beq_eq_false_iff_ne.mpr (hk 2 (by simp))
  have k3 : (k == 3) = false := beq_eq_false_iff_ne.mpr (hk 3 (by simp))
  have k4 : (k == 4) = false := beq_eq_false_iff_ne.mpr (hk 4 (by simp))
  have k5 : (k == 5) = false := beq_eq_false_iff_ne.mpr (hk 5 (by simp))
  have k6 : (k == 6) = false := beq_eq_false_iff_ne.mpr (hk 6 (by simp))
  have k11 : (k == 11) = false := beq_eq_false_iff_ne.mpr (hk 11 (by simp))
  have k12 : (k == 12) = false := beq_eq_false_iff_ne.mpr (hk 12 (by simp))
  have HJ : Hid (jumps k = false) := Lib.hid (by
    have h2 := hk 2 (by simp); have h3 := hk 3 (by simp); have h4 := hk 4 (by simp); have h5 := hk 5 (by simp); have h6 := hk 6 (by simp)
    unfold jumps within; simp; omega)
  have HK := Lib.hid hk
  clear hk
  have HX := Lib.hid hx
  have H := Lib.hid h
  obtain ⟨n, hn⟩ : ∃ n, n = E.p.length := ⟨_, rfl⟩
  rw [← hn] at cp hi
  have HN := Lib.hid hn
  clear hA hx h hn
  have q0 := cell_alloc' (.cells #[.int .i64 0, .int .i64 0] 56) g0
  have q1 := cell_alloc' (.cells #[.int .i64 0, .int .i64 0] 56) g1
  have q2 := cell_alloc' (.cells #[.int .i64 0, .int .i64 0] 56) g2
  have q3 := cell_alloc' (.cells #[.int .i64 0, .int .i64 0] 56) g3
  have qp := cell_alloc' (.cells #[.int .i64 0, .int .i64 0] 56) cp
  have HM : Hid (∀ y : Ext ((w.alloc (.cells #[.int .i64 0, .int .i64 0] 56)).alloc (.cells #[.int .i64 d, .int .i64 k, .int .i64 a, .int .i64 b] 37)), Mach E y.1 ⟨g, lv, fv⟩ s) := Lib.hid fun y => ((H.out.alloc _).alloc _).ext y
  have gl : ∀ y : Ext ((w.alloc (.cells #[.int .i64 0, .int .i64 0] 56)).alloc (.cells #[.int .i64 d, .int .i64 k, .int .i64 a, .int .i64 b] 37)), g < y.1.heap.size := fun y => y.lt (by simp; omega)
  have y1 : ∀ y : Ext ((w.alloc (.cells #[.int .i64 0, .int .i64 0] 56)).alloc (.cells #[.int .i64 d, .int .i64 k, .int .i64 a, .int .i64 b] 37)), y.1.cell? ⟨g, 4, none⟩ = some (.int .i64 s.first) := fun y => (HM.out y).face.c1
  have y4 : ∀ y : Ext ((w.alloc (.cells #[.int .i64 0, .int .i64 0] 56)).alloc (.cells #[.int .i64 d, .int .i64 k, .int .i64 a, .int .i64 b] 37)), y.1.frozen? ⟨g, 4, none⟩ = false := fun y => (HM.out y).face.f4
  have HBK : Hid (∀ y : Ext ((w.alloc (.cells #[.int .i64 0, .int .i64 0] 56)).alloc (.cells #[.int .i64 d, .int .i64 k, .int .i64 a, .int .i64 b] 37)), Blk y.1 w.heap.size 56 #[.int .i64 0, .int .i64 0]) := Lib.hid fun y => ((Blk.new w _ _).alloc _).ext y
  have HBL : Hid (∀ y : Ext ((w.alloc (.cells #[.int .i64 0, .int .i64 0] 56)).alloc (.cells #[.int .i64 d, .int .i64 k, .int .i64 a, .int .i64 b] 37)), Blk y.1 (w.heap.size + 1) 37 #[.int .i64 d, .int .i64 k, .int .i64 a, .int .i64 b]) := Lib.hid fun y => (by have := Blk.new (w.alloc (.cells #[.int .i64 0, .int .i64 0] 56)) 37 #[.int .i64 d, .int .i64 k, .int .i64 a, .int .i64 b]; rw [show (w.alloc (.cells #[.int .i64 0, .int .i64 0] 56)).heap.size = w.heap.size + 1 from by simp] at this; exact this.ext y)
  have HST : Hid (∀ y : Ext ((w.alloc (.cells #[.int .i64 0, .int .i64 0] 56)).alloc (.cells #[.int .i64 d, .int .i64 k, .int .i64 a, .int .i64 b] 37)), Step w ⟨g, lv, fv⟩ y.1 ⟨g, lv, fv⟩) := Lib.hid fun y => (((Step.refl w _).alloc _).alloc _).trans (Step.ext _ y)
  have ll : ∀ y : Ext ((w.alloc (.cells #[.int .i64 0, .int .i64 0] 56)).alloc (.cells #[.int .i64 d, .int .i64 k, .int .i64 a, .int .i64 b] 37)), w.heap.size + 1 < y.1.heap.size := fun y => (HBL.out y).lt
  have l1 : ∀ y : Ext ((w.alloc (.cells #[.int .i64 0, .int .i64 0] 56)).alloc (.cells #[.int .i64 d, .int .i64 k, .int .i64 a, .int .i64 b] 37)), y.1.cell? ⟨w.heap.size + 1, 1, none⟩ = some (.int .i64 k) := fun y => (HBL.out y).cell 1
  have l2 : ∀ y : Ext ((w.alloc (.cells #[.int .i64 0, .int .i64 0] 56)).alloc (.cells #[.int .i64 d, .int .i64 k, .int .i64 a, .int .i64 b] 37)), y.1.cell? ⟨w.heap.size + 1, 2, none⟩ = some (.int .i64 a) := fun y => (HBL.out y).cell 2
  have l3 : ∀ y : Ext ((w.alloc (.cells #[.int .i64 0, .int .i64 0] 56)).alloc (.cells #[.int .i64 d, .int .i64 k, .int .i64 a, .int .i64 b] 37)), y.1.cell? ⟨w.heap.size + 1, 3, none⟩ = some (.int .i64 b) := fun y => (HBL.out y).cell 3
  have e0 : ∀ (y : Ext ((w.alloc (.cells #[.int .i64 0, .int .i64 0] 56)).alloc (.cells #[.int .i64 d, .int .i64 k, .int .i64 a, .int .i64 b] 37))) (j : Nat), y.1.frozen? ⟨w.heap.size, j, none⟩ = false := fun y j => (HBK.out y).frozen j
  have e1 : ∀ (y : Ext ((w.alloc (.cells #[.int .i64 0, .int .i64 0] 56)).alloc (.cells #[.int .i64 d, .int .i64 k, .int .i64 a, .int .i64 b] 37))), y.1.cell? ⟨w.heap.size, 0, none⟩ = some (.int .i64 0) := fun y => (HBK.out y).cell 0
  have e2 : ∀ (y : Ext ((w.alloc (.cells #[.int .i64 0, .int .i64 0] 56)).alloc (.cells #[.int .i64 d, .int .i64 k, .int .i64 a, .int .i64 b] 37))), y.1.cell? ⟨w.heap.size, 1, none⟩ = some (.int .i64 0) := fun y => (HBK.out y).cell 1
  clear g0 g1 g2 g3 cp cl c1 f2
  go_enter Try.func55, Try.ntmps55
  go_wp2_with (go_at_call 88; refine (calls_ext0 (W := ((w.alloc (.cells #[.int .i64 0, .int .i64 0] 56)).alloc (.cells #[.int .i64 d, .int .i64 k, .int .i64 a, .int .i64 b] 37))) (jumps_calls ⟨d, k, a, b⟩ _)).mono ?_; rw [HJ.out]; rintro e w1 ⟨rfl, y, rfl⟩)
  refine bodyPost_ret (results_cell_row rfl _ _ w.heap.size 56 #[.int .i64 0, .int .i64 0] (0, 0) _ rfl ((HBK.out y).set2 _ _) Try.underlying56 rfl (by kernel_rfl)) rfl ?_
  have h1 := HK.out 1 (by simp); have h2 := HK.out 2 (by simp); have h3 := HK.out 3 (by simp); have h4 := HK.out 4 (by simp)
  have h5 := HK.out 5 (by simp); have h6 := HK.out 6 (by simp); have h11 := HK.out 11 (by simp); have h12 := HK.out 12 (by simp)
  have e : lineR E.p B i hd s = (⟨0, 0⟩, s) := by
    unfold lineR lineGo markR
    simp only []
    rw [← HX.out]
    simp only []
    rw [if_neg h1, if_neg h2, if_neg h3, if_neg h4, if_neg h5, if_neg h6, if_neg h11, if_neg h12, HJ.out]
    simp
  exact mret_of (HM.out y) (HST.out y) rfl (HBK.out y) hgl H.out.ge (by rw [e]) (by rw [e]) (by rw [e])
end Go.Proofs.Ytihjakpedbaokaa.K
namespace Go.Proofs.Ytihjakpedbaokaa.K

theorem chainOk_len {p : Prg} {l : List Nat} : ∀ (m k ex : Nat), l.length - k = m → chainOkGo p l k ex = true → 1 < l.length := by
  intro m
  induction m with
  | zero => intro k ex h hc; rw [chainOkGo, if_neg (by omega)] at hc; simp at hc; exact hc.1
  | succ m ih =>
    intro k ex h hc
    rw [chainOkGo, if_pos (by omega)] at hc
    simp only [] at hc
    obtain ⟨ex', he⟩ : ∃ e', e' = (if (ln p (l.getD k 0)).kind = 8 then ex + 1 else ex) := ⟨_, rfl⟩
    rw [← he] at hc
    split at hc
    · cases hc
    · exact ih (k + 1) _ (by omega) hc
structure ValidOk (t : Tree) (p : Prg) : Prop where
  vt : validTree t = true
  len : p.length ≤ 24
  line : ∀ i, i < p.length → LineSpec t.length p i
  pl : Pl p
  cc : ∀ i, i < p.length → CC p i
theorem valid_ok {t : Tree} {p : Prg} (h : validProg t p = true) : ValidOk t p := by
  rw [valid_eq] at h
  unfold validProgram at h
  simp only [Bool.and_eq_true, decide_eq_true_iff] at h
  rw [← validTree_eq, allFrom0] at h
  obtain ⟨⟨h1, h2⟩, h3⟩ := h
  have hl : ∀ i, i < p.length → LineSpec t.length p i ∧ CC p i := by
    intro i hi
    have h := h1 i hi
    unfold validLine at h
    simp only [Bool.and_eq_true, Bool.not_eq_true', Bool.or_eq_true] at h
    obtain ⟨⟨⟨⟨a, b⟩, c⟩, d⟩, e⟩ := h
    refine ⟨⟨a, b, c⟩, ?_, ?_, fun hf => by rcases e with e | e; rw [hf] at e; cases e; exact e⟩
    · intro h7
      unfold badKind at d
      rw [h7] at d
      simpa using d
    · intro h5
      unfold badKind at d
      simp at d
      exact d.2 h5
  exact ⟨h2, h3, fun i hi => (hl i hi).1, pl_of fun i hi => (hl i hi).1, fun i hi => (hl i hi).2⟩
theorem valid_no {t : Tree} {p : Prg} (h : validProg t p = true) : 1 ≤ t.length ∧ t.length ≤ 8 := by
  have := (valid_ok h).vt
  unfold validTree within at this
  simp at this
  omega
theorem ValidOk.dep {t : Tree} {p : Prg} (h : ValidOk t p) {i : Nat} (hi : i < p.length) : 0 ≤ (ln p i).depth ∧ (ln p i).depth ≤ 5 := by
  have := (h.line i hi).dep; unfold within at this; simpa using this
theorem ValidOk.two {t : Tree} {p : Prg} (h : ValidOk t p) {i : Nat} (hi : i < p.length) (hk : (ln p i).kind = 7) : 2 ≤ (tryFrom p i).length := by
  have h1 := (h.cc i hi).1 hk
  unfold validChain at h1
  have := chainOk_len _ _ _ rfl h1
  rw [chainOf_eq hi] at this
  omega
theorem ValidOk.wf {t : Tree} {p : Prg} (h : ValidOk t p) : wfF false (fparse p) := by
  have := wfF_seg h.pl h.cc _ 0 0 p.length false rfl (cl_all h.pl) (fun _ hx => by unfold hdAt at hx; have : headGo p 0 0 = -1 := rfl; rw [this] at hx; omega)
  rwa [seg_all] at this
theorem ValidOk.env {base : Nat} {t : Tree} {At : Option Addr} {nt : Nat} {p : Prg} {A : Option Addr} {c : Nat} (h : validProg t p = true) : EnvOk ⟨base, t, At, nt, p, A, c⟩ :=
  ⟨(valid_ok h).len, (valid_no h).2, (valid_ok h).vt, fun i hi => ((valid_ok h).line i hi).arg, fun i hi => (valid_ok h).dep hi⟩

/-- The machine's run of a program. -/
def runR (t : Tree) (p : Prg) : En × St := linesR t p (blockR t p 6) p.length 0 (-1) ⟨[], [], -1⟩
/-- What a program does. -/
def runF (t : Tree) (p : Prg) : En × S2 := frun t (fparse p) none (-1) ⟨[], []⟩
def runV (t : Tree) (p : Prg) : En × S2 := if validProg t p = true then runF t p else (⟨0, 0⟩, ⟨[], []⟩)
theorem runR_pr {t : Tree} {p : Prg} (h : validProg t p = true) : PR (runR t p) = runF t p :=
  run_pr (valid_ok h).pl (fun i hi => ((valid_ok h).dep hi).2) (by omega) (-1) ⟨[], [], -1⟩
theorem runF_size {t : Tree} {p : Prg} (h : validProg t p = true) : (runF t p).2.log.length + (runF t p).2.flt.length ≤ 11664 := by
  have v := valid_ok h
  have h1 : floops (fparse p) := by
    have := floops_seg v.pl (fun _ hi hk => by
      have := (v.line _ hi).arg
      unfold argued within at this
      rw [hk] at this
      simp at this
      omega) _ 0 0 p.length rfl (cl_all v.pl)
    rwa [seg_all] at this
  have h2 : fcost (fparse p) ≤ 2 * 3 ^ 5 * p.length := by
    have := fcost_seg v.pl (fun i hi => (v.dep hi).2) _ 0 0 p.length 5 rfl (cl_all v.pl) (fun _ => rfl)
    rwa [seg_all] at this
  have h3 := frun_size t (fparse p) h1 none (-1) ⟨[], []⟩
  have h4 : ssize (⟨[], []⟩ : S2) = 0 := rfl
  rw [h4] at h3
  have h5 : (2 : Nat) * 3 ^ 5 * p.length ≤ 2 * 3 ^ 5 * 24 := Nat.mul_le_mul_left _ v.len
  have h6 : ssize (runF t p).2 = (runF t p).2.log.length + (runF t p).2.flt.length := rfl
  unfold runF at h6 ⊢
  omega
theorem runR_size {t : Tree} {p : Prg} (h : validProg t p = true) : (runR t p).2.log.length ≤ 11664 ∧ (runR t p).2.flt.length ≤ 11664 := by
  have h1 := runF_size h
  rw [← runR_pr h] at h1
  have : (PR (runR t p)).2.log = (runR t p).2.log ∧ (PR (runR t p)).2.flt = (runR t p).2.flt := ⟨rfl, rfl⟩
  rw [this.1, this.2] at h1
  omega
theorem sok_start (nt : Nat) : SOk nt ⟨[], [], -1⟩ := ⟨fun i hi => absurd hi (by simp), fun i hi => absurd hi (by simp)⟩
theorem runR_good {t : Tree} {p : Prg} (h : validProg t p = true) : Good t.length ⟨[], [], -1⟩ (runR t p) :=
  good_lines (good_block (valid_no h).1 (fun i hi => ((valid_ok h).line i hi).arg) 6) (valid_no h).1 (fun i hi => ((valid_ok h).line i hi).arg) (by omega) (Nat.le_refl _) _ 0 _ rfl (sok_start _) (by simp)
end Go.Proofs.Ytihjakpedbaokaa.K
namespace Go.Proofs.Ytihjakpedbaokaa.K

/-! ### what a run tells -/
def fnums (P : Int → Prop) : F → Prop
  | .nil => True
  | .node k a _ body rest => (k = 1 → P a) ∧ (k = 11 → P (100 + a) ∧ P (200 + a)) ∧ fnums P body ∧ fnums P rest
def Told (P : Int → Prop) (s : S2) : Prop := ∀ x ∈ s.log, P x
section
variable {P : Int → Prop} {T : Tree}
theorem told_tell {s : S2} (h : Told P s) {n : Int} (hn : P n) : Told P (ftell s n) := fun x hx => by
  rcases List.mem_append.1 hx with hx | hx
  · exact h x hx
  · simp at hx; subst hx; exact hn
theorem floop_told {f : S2 → En × S2} (h : ∀ s, Told P s → Told P (f s).2) : ∀ (n : Nat) (s : S2), Told P s → Told P (floop f n s).2
  | 0, _, hs => hs
  | n + 1, s, hs => by
    have h1 := h s hs
    unfold floop
    simp only []
    split
    · exact h1
    · split
      · exact h1
      · exact floop_told h n _ h1
theorem fline_told {f : Rf} (h : ∀ hd s, Told P s → Told P (f hd s).2) {k a b : Int} (h1 : k = 1 → P a) (h11 : k = 11 → P (100 + a) ∧ P (200 + a)) (hd : Int) {s : S2} (hs : Told P s) : Told P (fline f k a b hd s).2 := by
  unfold fline
  simp only []
  split
  · rename_i hk; exact told_tell hs (h1 hk)
  split
  · exact hs
  split
  · split <;> exact hs
  split
  · exact hs
  split
  · exact hs
  split
  · exact hs
  split
  · rename_i hk; exact told_tell (h hd _ (told_tell hs (h11 hk).1)) (h11 hk).2
  split
  · exact floop_told (h hd) _ _ hs
  · exact hs
theorem fpart_told {f : Rf} (h : ∀ hd s, Told P s → Told P (f hd s).2) (k a hd : Int) {x : En × En × S2} (hs : Told P x.2.2) : Told P (fpart T f k a hd x).2.2 := by
  unfold fpart
  simp only []
  split
  · split
    · exact h _ _ hs
    · exact hs
  split
  · split
    · exact h _ _ hs
    · exact hs
  split
  · exact h _ _ hs
  · exact hs
theorem frun_told : ∀ (f : F), fnums P f → ∀ m hd s, Told P s → Told P (frun T f m hd s).2
  | .nil, _, none, _, _, hs => hs
  | .nil, _, some x, _, s, hs => by simp only [frun]; split <;> exact hs
  | .node k a b body rest, h, m, hd, s, hs => by
    have h1 := frun_told body h.2.2.1 none
    have h2 := frun_told rest h.2.2.2
    have hgo : ∀ s, Told P s → Told P (if k = 7 then let x := frun T body none hd s; frun T rest (some (x.1, x.1)) hd x.2 else let x := fline (frun T body none) k a b hd s; if x.1.e ≠ 0 then x else frun T rest none hd x.2).2 := by
      intro s hs
      simp only []
      split
      · exact h2 _ _ _ (h1 hd s hs)
      · have h3 := fline_told h1 h.1 h.2.1 hd hs (b := b)
        split
        · exact h3
        · exact h2 _ _ _ h3
    cases m with
    | none => simp only [frun]; exact hgo s hs
    | some m =>
      simp only [frun]
      split
      · exact h2 _ _ _ (fpart_told h1 k a hd (x := (m.1, m.2, s)) hs)
      · split
        · exact hs
        · exact hgo s hs
theorem fnums_seg {p : Prg} (hP : Pl p) (ha : ∀ i, i < p.length → ((ln p i).kind = 1 → P (ln p i).a) ∧ ((ln p i).kind = 11 → P (100 + (ln p i).a) ∧ P (200 + (ln p i).a))) : ∀ (m : Nat) (d : Int) (i te : Nat), te - i = m → Cl p d i te → fnums P (fparse (seg p i te)) := by
  intro m
  induction m using Nat.strongRecOn with
  | ind m ih =>
    intro d i te hm h
    by_cases hi : i < te
    · have hn := h.next hi
      have hg := endOf_gt p i
      have hl := h.len
      rw [fparse_seg h hi]
      exact ⟨(ha i (by omega)).1, (ha i (by omega)).2, ih _ (by omega) (d + 1) (i + 1) (endOf p i) rfl (h.child hP hi), ih _ (by omega) d (endOf p i) te rfl hn.2⟩
    · rw [seg_nil (by omega), fparse_nil]; trivial
end
def Num (x : Int) : Prop := 0 ≤ x ∧ x ≤ 1000
theorem runV_told (t : Tree) (p : Prg) : ∀ x ∈ (runV t p).2.log, Num x := by
  unfold runV
  by_cases hv : validProg t p = true
  · rw [if_pos hv]
    have v := valid_ok hv
    have h1 : fnums Num (fparse p) := by
      have := fnums_seg (P := Num) v.pl (fun i hi => by
        have h := (v.line i hi).arg
        unfold argued codeOk within at h
        constructor
        · intro hk
          rw [hk] at h
          simp at h
          unfold Num; omega
        · intro hk
          rw [hk] at h
          simp at h
          unfold Num; omega) _ 0 0 p.length rfl (cl_all v.pl)
      rwa [seg_all] at this
    exact frun_told (T := t) (fparse p) h1 none (-1) ⟨[], []⟩ (fun x hx => by cases hx)
  · rw [if_neg hv]; exact fun x hx => by cases hx
theorem runV_len (t : Tree) (p : Prg) : (runV t p).2.log.length ≤ 11664 ∧ (runV t p).2.flt.length ≤ 11664 := by
  unfold runV
  by_cases hv : validProg t p = true
  · rw [if_pos hv]; have := runF_size hv; omega
  · rw [if_neg hv]; simp
/-- Lowered, a program does the same. -/
theorem low_same {t : Tree} {p : Prg} (h : validProg t p = true) (h2 : validProg t (lowI p) = true) : (runV t (lowI p)).1 = (runV t p).1 ∧ (runV t (lowI p)).2.flt = (runV t p).2.flt ∧ low (runV t (lowI p)).2.log = low (runV t p).2.log := by
  have e1 : runV t p = runF t p := if_pos h
  have e2 : runV t (lowI p) = runF t (lowI p) := if_pos h2
  rw [e1, e2]
  unfold runF
  rw [fparse_low _ p rfl]
  have := frun_sim t (fparse p) false (valid_ok h).wf none (-1) ⟨[], []⟩ ⟨[], []⟩ (Sim.refl _)
  exact ⟨this.1, this.2.flt, this.2.log⟩
end Go.Proofs.Ytihjakpedbaokaa.K
