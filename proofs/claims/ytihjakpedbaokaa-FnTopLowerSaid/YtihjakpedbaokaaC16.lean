/- Walk: what a machine did (impl.result). -/
import Derived.Test.YtihjakpedbaokaaC12
import Derived.Test.YtihjakpedbaokaaC15
import Derived.Deep.RegionHeld3
namespace Go.Proofs.Ytihjakpedbaokaa.K
open Go Go.RowKit

set_option maxHeartbeats 400000 in
theorem clipQ_calls (A : Option Addr) (n c : Nat) (w : World) (hc : n ≤ c) :
    Calls Try.prog 51 #[.slice A n c] w fun e w' => e = .returned (.slice A n n) ∧ w = w' := by
  go_enter Try.func51, Try.ntmps51
  go_wp2
  go_ret
  exact ⟨rfl, rfl⟩

/-- A call hands back what a program does. -/
def RetR (w : World) (B : Nat) (log : List Int) (x : En) (H : List Flt) (e : Ending) (w' : World) : Prop :=
  ∃ AL cL AH cH, e = .returned (.agg #[.slice AL log.length cL, .int .i64 x.e, .int .i64 x.v, .slice AH H.length cH]) ∧ Rd encI 1 w' AL log ∧ Rd encF 5 w' AH H ∧ (∀ ad, AL = some ad → B ≤ ad.block) ∧ (∀ ad, AH = some ad → B ≤ ad.block) ∧ Below w.heap.size w w'
/-- The fault with which a run ends, as the result tells it. -/
def resX (x : En) (F : List Flt) : En := if x.e = 2 then ⟨2, indexOf (reachF F x.v) x.v⟩ else x
def resH (x : En) (F : List Flt) : List Flt := if x.e = 2 then isoF F x.v else []

theorem cell_far {w : World} {p q : Addr} (h : q.block ≠ p.block) (u : Value) : (w.setCell p u).cell? q = w.cell? q := World.cell?_of_block (Below.heap_setCell w p u _ h)
theorem rd_set4 {α : Type} {enc : α → List Value} {k : Nat} {w : World} {A : Option Addr} {xs : List α} {n : Nat} (h : Rd enc k w A xs) (hn : ∀ ad, A = some ad → ad.block ≠ n) (u0 u1 u2 u3 : Value) : Rd enc k ((((w.setCell ⟨n, 0, none⟩ u0).setCell ⟨n, 1, none⟩ u1).setCell ⟨n, 2, none⟩ u2).setCell ⟨n, 3, none⟩ u3) A xs :=
  rd_keep h (by simp) fun ad e => by
    have := hn ad e
    exact (Below.heap_setCell _ _ _ _ this).trans ((Below.heap_setCell _ _ _ _ this).trans ((Below.heap_setCell _ _ _ _ this).trans (Below.heap_setCell _ _ _ _ this)))
theorem rd_set2 {α : Type} {enc : α → List Value} {k : Nat} {w : World} {A : Option Addr} {xs : List α} {n i j : Nat} (h : Rd enc k w A xs) (hn : ∀ ad, A = some ad → ad.block ≠ n) (u0 u1 : Value) : Rd enc k ((w.setCell ⟨n, i, none⟩ u0).setCell ⟨n, j, none⟩ u1) A xs :=
  rd_keep h (by simp) fun ad e => by
    have := hn ad e
    exact (Below.heap_setCell _ _ _ _ this).trans (Below.heap_setCell _ _ _ _ this)
theorem retR_end {w wz : World} {B : Nat} {log : List Int} {x : En} {H : List Flt} {AL AH : Option Addr} {cL cH n : Nat} (hn : w.heap.size ≤ n) (hY : Below w.heap.size w wz) (hl : Rd encI 1 wz AL log) (hh : Rd encF 5 wz AH H) (h1 : ∀ ad, AL = some ad → ad.block ≠ n) (h2 : ∀ ad, AH = some ad → ad.block ≠ n) (b1 : ∀ ad, AL = some ad → B ≤ ad.block) (b2 : ∀ ad, AH = some ad → B ≤ ad.block) :
    RetR w B log x H (.returned (.agg #[.slice AL log.length cL, .int .i64 x.e, .int .i64 x.v, .slice AH H.length cH])) ((((wz.setCell ⟨n, 0, none⟩ (.slice AL log.length cL)).setCell ⟨n, 1, none⟩ (.int .i64 x.e)).setCell ⟨n, 2, none⟩ (.int .i64 x.v)).setCell ⟨n, 3, none⟩ (.slice AH H.length cH)) :=
  ⟨AL, cL, AH, cH, rfl, rd_set4 hl h1 _ _ _ _, rd_set4 hh h2 _ _ _ _, b1, b2, (((hY.setCell (p := ⟨n, 0, none⟩) hn _).setCell (p := ⟨n, 1, none⟩) hn _).setCell (p := ⟨n, 2, none⟩) hn _).setCell (p := ⟨n, 3, none⟩) hn _⟩

set_option maxHeartbeats 4000000 in
set_option maxRecDepth 100000 in
theorem result_calls (E : Env) (m : M) (s : St) (x : En) (w : World) (h : Mach E w m s) (hF : FOk s.flt) (hx : EnOk s x) (hn : s.flt.length ≤ 1099511627776) :
    Calls Try.prog 30 #[.pointer (some ⟨m.g, 0, none⟩), .agg #[.int .i64 x.e, .int .i64 x.v]] w (RetR w E.base s.log (resX x s.flt) (resH x s.flt)) := by
  obtain ⟨g, lv, fv⟩ := m
  obtain ⟨xe, xv⟩ := x
  obtain ⟨AL, cL, e, hrl, hfl, hlc⟩ := h.log.form encI_len
  simp only [] at e
  subst e
  obtain ⟨AF, cF, e, hrf, -, -⟩ := h.flt.form encF_len
  simp only [] at e
  subst e
  have H := Lib.hid h
  have HF := Lib.hid hF
  have HX := Lib.hid hx
  have HRL := Lib.hid hrl
  have HRF := Lib.hid hrf
  have HFL := Lib.hid hfl
  obtain ⟨hgl, -, -, cl, cf, -, -, -⟩ := h.face
  have b0 : ∀ y : Ext ((w.alloc (.cells #[.int .i64 xe, .int .i64 xv] 56)).alloc (.cells #[.slice none 0 0, .int .i64 0, .int .i64 0, .slice none 0 0] 34)), y.1.cell? ⟨g, 2, none⟩ = some (.slice AL s.log.length cL) := fun y => y.cell (cell_alloc' _ (cell_alloc' _ cl))
  have b1 : ∀ y : Ext ((w.alloc (.cells #[.int .i64 xe, .int .i64 xv] 56)).alloc (.cells #[.slice none 0 0, .int .i64 0, .int .i64 0, .slice none 0 0] 34)), y.1.cell? ⟨g, 3, none⟩ = some (.slice AF s.flt.length cF) := fun y => y.cell (cell_alloc' _ (cell_alloc' _ cf))
  have hgs : ∀ y : Ext ((w.alloc (.cells #[.int .i64 xe, .int .i64 xv] 56)).alloc (.cells #[.slice none 0 0, .int .i64 0, .int .i64 0, .slice none 0 0] 34)), g < y.1.heap.size := fun y => y.lt (by simp; omega)
  have q0 := cell_alloc' (.cells #[.int .i64 xe, .int .i64 xv] 56) cl
  have q1 := cell_alloc' (.cells #[.int .i64 xe, .int .i64 xv] 56) cf
  clear h hF hx hrl hrf hfl
  go_enter Try.func30, Try.ntmps30
  go_upto_region 1 with fail
  have hgw := hgs ⟨_, Below.refl _ _⟩
  have b0w := b0 ⟨_, Below.refl _ _⟩
  simp only [] at hgw b0w
  go_region_held3 (fun w' => w'.cell? ⟨g, 2, none⟩ = some (.slice AL s.log.length cL) ∧ w'.cell? ⟨w.heap.size, 0, none⟩ = some (.int .i64 xe) ∧ w'.cell? ⟨w.heap.size, 1, none⟩ = some (.int .i64 xv)) (go_keep) (first | (go_at_call 51; refine (clipQ_calls AL s.log.length cL _ hlc).mono ?_; rintro e w5 ⟨rfl, rfl⟩))
  all_goals (
    generalize hq : World.drew _ = wd
    have HBE : Hid (Blk wd w.heap.size 56 #[.int .i64 xe, .int .i64 xv]) := Lib.hid (by rw [← hq]; exact ((Blk.new w _ _).alloc _).alloc _)
    have HBR : Hid (Blk wd (w.heap.size + 1) 34 #[.slice none 0 0, .int .i64 0, .int .i64 0, .slice none 0 0]) := Lib.hid (by
      rw [← hq]
      have h0 := Blk.new (w.alloc (.cells #[.int .i64 xe, .int .i64 xv] 56)) 34 #[.slice none 0 0, .int .i64 0, .int .i64 0, .slice none 0 0]
      rw [show (w.alloc (.cells #[.int .i64 xe, .int .i64 xv] 56)).heap.size = w.heap.size + 1 from by simp] at h0
      exact h0.alloc _)
    have HBS : Hid (Blk wd (w.heap.size + 1 + 1) 34 #[.slice AL s.log.length s.log.length, .int .i64 xe, .int .i64 xv, .slice none 0 0]) := Lib.hid (by
      rw [← hq]
      have h0 := Blk.new ((w.alloc (.cells #[.int .i64 xe, .int .i64 xv] 56)).alloc (.cells #[.slice none 0 0, .int .i64 0, .int .i64 0, .slice none 0 0] 34)) 34 #[.slice AL s.log.length s.log.length, .int .i64 xe, .int .i64 xv, .slice none 0 0]
      rw [show (((w.alloc (.cells #[.int .i64 xe, .int .i64 xv] 56)).alloc (.cells #[.slice none 0 0, .int .i64 0, .int .i64 0, .slice none 0 0] 34))).heap.size = w.heap.size + 1 + 1 from by simp] at h0
      exact h0)
    have HY : Hid (Below w.heap.size w wd) := Lib.hid (by rw [← hq]; exact (below_alloc (below_alloc (below_alloc (Below.refl _ _) _) _) _).drew)
    have HRLd : Hid (∀ z : Ext wd, Rd encI 1 z.1 AL s.log) := Lib.hid fun z => (by
      have : Rd encI 1 wd AL s.log := HRL.out.ext ⟨wd, HY.out⟩
      exact this.ext z)
    have HRFd : Hid (Rd encF 5 wd AF s.flt) := Lib.hid (HRF.out.ext ⟨wd, HY.out⟩)
    have d0 : wd.cell? ⟨g, 3, none⟩ = some (.slice AF s.flt.length cF) := by have := b1 ⟨(((w.alloc (.cells #[.int .i64 xe, .int .i64 xv] 56)).alloc (.cells #[.slice none 0 0, .int .i64 0, .int .i64 0, .slice none 0 0] 34))).alloc (.cells #[.slice AL s.log.length s.log.length, .int .i64 xe, .int .i64 xv, .slice none 0 0] 34), below_alloc (Below.refl _ _) _⟩; rw [← hq]; exact this
    have dg : g < wd.heap.size := by have := HY.out.size; omega
    have e0 := HBE.out.cell 0
    have e1 := HBE.out.cell 1
    have dl := HBS.out.lt
    clear hq b0 b1 hgs q0 q1 b0w hgw
    by_cases h2 : xe = 2
    · subst h2
      have hv := HX.out rfl
      simp only [] at hv
      obtain ⟨v, rfl⟩ : ∃ v : Nat, xv = v := ⟨xv.toNat, by omega⟩
      have hvl : v < s.flt.length := by omega
      have HE : Hid (resX ⟨2, v⟩ s.flt = ⟨2, indexOf (reachF s.flt v) v⟩ ∧ resH ⟨2, v⟩ s.flt = isoF s.flt v) := Lib.hid ⟨rfl, rfl⟩
      go_upto_region 3 with fail
      go_region_held3 (fun w' => w'.cell? ⟨g, 3, none⟩ = some (.slice AF s.flt.length cF) ∧ w'.cell? ⟨w.heap.size, 1, none⟩ = some (.int .i64 v)) (first | go_keep | exact ⟨by assumption, by assumption⟩ | exact ⟨(cell_far (by show g ≠ w.heap.size + 1 + 1; omega) _).trans (by assumption), (cell_far (by show w.heap.size ≠ w.heap.size + 1 + 1; omega) _).trans (by assumption)⟩ | exact ⟨(cell_far (by show g ≠ w.heap.size + 1 + 1; omega) _).trans ((cell_far (by show g ≠ w.heap.size + 1 + 1; omega) _).trans (by assumption)), (cell_far (by show w.heap.size ≠ w.heap.size + 1 + 1; omega) _).trans ((cell_far (by show w.heap.size ≠ w.heap.size + 1 + 1; omega) _).trans (by assumption))⟩) (first | (go_at_call 52; refine (isolate_calls s.flt AF cF v _ (by exact HRFd.out) HF.out hn hvl).mono ?_; rintro e w5 ⟨AH, cH, rfl, hr5, hf5, hb5⟩; have hbs5 : Blk w5 (w.heap.size + 1 + 1) 34 #[.slice AL s.log.length s.log.length, .int .i64 2, .int .i64 v, .slice none 0 0] := (hb5.block _ (by exact dl)).trans HBS.out; have z0 := hbs5.cell 0; have z1 := hbs5.cell 1; have z2 := hbs5.cell 2; have z3 := hbs5.cell 3; have z4 := hbs5.frozen 2; have z5 := hbs5.frozen 3; have z6 := hbs5.lt; have g3 : w5.cell? ⟨g, 3, none⟩ = some (.slice AF s.flt.length cF) := (hb5.cell (p := ⟨g, 3, none⟩) (by exact dg)).trans d0; have e5 : w5.cell? ⟨w.heap.size, 1, none⟩ = some (.int .i64 v) := (hb5.cell (p := ⟨w.heap.size, 1, none⟩) (by show w.heap.size < wd.heap.size; omega)).trans e1; have HR5 := Lib.hid hr5; have HF5 := Lib.hid hf5; have HB5 := Lib.hid hb5; have HBS5 := Lib.hid hbs5; clear hr5 hf5 hb5 hbs5))
      all_goals (
        generalize hq : World.setCell (World.setCell _ _ _) _ _ = wz
        have HBZ : Hid (Blk wz (w.heap.size + 1 + 1) 34 #[.slice AL s.log.length s.log.length, .int .i64 2, .int .i64 (indexOf (reachF s.flt v) v), .slice AH (isoF s.flt v).length cH]) := Lib.hid (by
          rw [← hq]
          have h1 := (HBS5.out.set_ 3 (.slice AH (isoF s.flt v).length cH)).set_ 2 (.int .i64 (indexOf (reachF s.flt v) v))
          exact h1)
        have HRZ : Hid (Blk wz (w.heap.size + 1) 34 #[.slice none 0 0, .int .i64 0, .int .i64 0, .slice none 0 0]) := Lib.hid (by
          rw [← hq]
          have h0 : Blk w5 (w.heap.size + 1) 34 #[.slice none 0 0, .int .i64 0, .int .i64 0, .slice none 0 0] := (HB5.out.block _ (by show w.heap.size + 1 < wd.heap.size; omega)).trans HBR.out
          exact Blk.far (Blk.far h0 (by simp) _) (by simp) _)
        have HLZ : Hid (Rd encI 1 wz AL s.log) := Lib.hid (by
          rw [← hq]
          have h0 : Rd encI 1 w5 AL s.log := rd_keep (HRLd.out ⟨wd, Below.refl _ _⟩) HB5.out.size fun ad e => HB5.out.block _ (by show ad.block < wd.heap.size; have := (HFL.out ad e).2; omega)
          exact rd_set2 h0 (fun ad e => by have := (HFL.out ad e).2; omega) _ _)
        have hfa : ∀ ad, AH = some ad → wd.heap.size ≤ ad.block := HF5.out
        have HFA := Lib.hid hfa
        clear hfa
        have HHZ : Hid (Rd encF 5 wz AH (isoF s.flt v)) := Lib.hid (by
          rw [← hq]
          exact rd_set2 HR5.out (fun ad e => by have := HFA.out ad e; omega) _ _)
        have HYZ : Hid (Below w.heap.size w wz) := Lib.hid (by
          rw [← hq]
          have h5 : Below w.heap.size wd w5 := ⟨HB5.out.os, HB5.out.tape, HB5.out.output, HB5.out.size, fun b hb => HB5.out.block b (by show b < wd.heap.size; omega)⟩
          exact ((HY.out.trans h5).setCell (p := ⟨w.heap.size + 1 + 1, 3, none⟩) (by show w.heap.size ≤ w.heap.size + 1 + 1; omega) _).setCell (p := ⟨w.heap.size + 1 + 1, 2, none⟩) (by show w.heap.size ≤ w.heap.size + 1 + 1; omega) _)
        clear hq z0 z1 z2 z3 z4 z5 z6 g3 e5
        have z0 := HBZ.out.cell 0
        have z1 := HBZ.out.cell 1
        have z2 := HBZ.out.cell 2
        have z3 := HBZ.out.cell 3
        have r0 := HRZ.out.cell 0
        have r1 := HRZ.out.frozen 0
        have r2 := HRZ.out.frozen 1
        have r3 := HRZ.out.frozen 2
        have r4 := HRZ.out.frozen 3
        have r5 := HRZ.out.cell 1
        have r6 := HRZ.out.cell 2
        have r7 := HRZ.out.cell 3
        go_wp2
        refine bodyPost_ret (results_cell_row rfl _ _ (w.heap.size + 1) 34 #[.slice AL s.log.length s.log.length, .int .i64 2, .int .i64 (indexOf (reachF s.flt v) v), .slice AH (isoF s.flt v).length cH] (0, 0) _ rfl (HRZ.out.set4 _ _ _ _) Try.underlying34 rfl (by kernel_rfl)) rfl ?_
        rw [HE.out.1, HE.out.2]
        exact retR_end (x := ⟨2, indexOf (reachF s.flt v) v⟩) (by omega) HYZ.out HLZ.out HHZ.out (fun ad e => by have := (HFL.out ad e).2; omega) (fun ad e => by have := HFA.out ad e; omega) (fun ad e => (HFL.out ad e).1) (fun ad e => by have h1 := HFA.out ad e; have h2 := H.out.ge; simp only [] at h2; omega))
    · have h2' : (xe == 2) = false := beq_eq_false_iff_ne.mpr h2
      have HE : Hid (resX ⟨xe, xv⟩ s.flt = ⟨xe, xv⟩ ∧ resH ⟨xe, xv⟩ s.flt = []) := Lib.hid ⟨if_neg h2, if_neg h2⟩
      have s0 := HBS.out.cell 0
      have s1 := HBS.out.cell 1
      have s2 := HBS.out.cell 2
      have s3 := HBS.out.cell 3
      have r0 := HBR.out.cell 0
      have r1 := HBR.out.frozen 0
      have r2 := HBR.out.frozen 1
      have r3 := HBR.out.frozen 2
      have r4 := HBR.out.frozen 3
      have r5 := HBR.out.cell 1
      have r6 := HBR.out.cell 2
      have r7 := HBR.out.cell 3
      clear h2
      go_wp2
      refine bodyPost_ret (results_cell_row rfl _ _ (w.heap.size + 1) 34 #[.slice AL s.log.length s.log.length, .int .i64 xe, .int .i64 xv, .slice none 0 0] (0, 0) _ rfl (HBR.out.set4 _ _ _ _) Try.underlying34 rfl (by kernel_rfl)) rfl ?_
      rw [HE.out.1, HE.out.2]
      exact retR_end (by omega) HY.out (HRLd.out ⟨wd, Below.refl _ _⟩) Rd.nil (fun ad e => by have := (HFL.out ad e).2; omega) (fun ad e => by cases e) (fun ad e => (HFL.out ad e).1) (fun ad e => by cases e))
end Go.Proofs.Ytihjakpedbaokaa.K
