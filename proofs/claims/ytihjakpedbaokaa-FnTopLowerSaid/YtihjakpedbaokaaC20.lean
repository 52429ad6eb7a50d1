/- Walk: impl.LowerWith. -/
import Derived.Test.YtihjakpedbaokaaC19
import Derived.Test.YtihjakpedbaokaaC12
import Derived.Test.YtihjakpedbaokaaC04
namespace Go.Proofs.Ytihjakpedbaokaa.K
open Go Go.RowKit

/-- A call hands back lines and whether there are some. -/
def RetP (w : World) (l : Prg) (ok : Bool) (e : Ending) (w' : World) : Prop :=
  ∃ A c, e = .returned (.tuple #[.slice A l.length c, .bool ok]) ∧ Rd encL 4 w' A l ∧ (∀ ad, A = some ad → ad.block < w'.heap.size) ∧ l.length ≤ c ∧ Below w.heap.size w w'
def lwOk (t : Tree) (p : Prg) : Bool := validProg t p && validProg t (lowI p)
def lwOut (t : Tree) (p : Prg) : Prg := if lwOk t p = true then lowI p else []
theorem ValidOk.deps {t : Tree} {p : Prg} (h : ValidOk t p) : ∀ x ∈ p, 0 ≤ x.depth ∧ x.depth ≤ 5 := by
  intro x hx
  obtain ⟨i, hi, rfl⟩ := List.getElem_of_mem hx
  have := h.dep hi
  unfold ln at this
  simpa [List.getElem?_eq_getElem hi] using this

set_option maxHeartbeats 2000000 in
set_option maxRecDepth 100000 in
theorem lowerWithI_calls (t : Tree) (At : Option Addr) (nt : Nat) (p : Prg) (A : Option Addr) (c : Nat) (w : World) (ht : Rd encC 2 w At t) (htn : t.length ≤ 140737488351232) (hs : Sized t) (hp : Rd encL 4 w A p) (hn : p.length ≤ 4398046511104) (hc : p.length ≤ c) :
    Calls Try.prog 7 #[.agg #[.slice At t.length nt], .slice A p.length c] w (RetP w (lwOut t p) (lwOk t p)) := by
  have HT := Lib.hid ht
  have HS := Lib.hid hs
  have HP := Lib.hid hp
  clear ht hs hp
  have b0 : ∀ y : Ext (w.alloc (.cells #[.slice At t.length nt] 24)), y.1.cell? ⟨w.heap.size, 0, none⟩ = some (.slice At t.length nt) := fun y => ((Blk.new w _ _).ext y).cell 0
  by_cases hv : validProg t p = true
  · have HV := Lib.hid hv
    have HD := Lib.hid (valid_ok hv).deps
    have h24 := (valid_ok hv).len
    have hll := lowI_len _ p rfl
    have HOK : Hid (lwOk t p = validProg t (lowI p)) := Lib.hid (by unfold lwOk; rw [hv]; rfl)
    clear hv
    by_cases hv2 : validProg t (lowI p) = true
    · have HV2 := Lib.hid hv2
      clear hv2
      go_enter Try.func7, Try.ntmps7
      go_upto_region 3 with (go_at_call 16; refine (calls_ext0 (W := (w.alloc (.cells #[.slice At t.length nt] 24))) (validProg_calls t At nt p A c _ (HT.out.alloc _) htn HS.out (HP.out.alloc _) hn)).mono ?_; rw [HV.out]; rintro e w3 ⟨rfl, y, rfl⟩)
      have c0 := b0 y
      have HTY : Hid (∀ z : Ext y.1, Rd encC 2 z.1 At t) := Lib.hid fun z => ((HT.out.alloc _).ext y).ext z
      have HPY := Lib.hid ((HP.out.alloc (.cells #[.slice At t.length nt] 24)).ext y)
      have HYW : Hid (∀ z : Ext y.1, Below w.heap.size w z.1) := Lib.hid fun z => below_trans (below_trans (below_alloc (Below.refl _ _) _) y.2) z.2
      have b1 : ∀ z : Ext y.1, z.1.cell? ⟨w.heap.size, 0, none⟩ = some (.slice At t.length nt) := fun z => z.cell c0
      clear b0
      go_region_held3 (fun w' => w'.cell? ⟨w.heap.size, 0, none⟩ = some (.slice At t.length nt)) (first | assumption | exact b1 ⟨_, by assumption⟩ | exact b1 ⟨_, Below.refl _ _⟩) (first
        | (go_at_call 25; refine (loweredI_calls _ p A c _ rfl h24 hc HD.out (by exact HPY.out)).mono ?_; rintro e5 w5 ⟨lad, lc, rfl, hr5, hf5, hl5, hc5, hb5⟩; have HR5 := Lib.hid hr5; have hb5' : Below y.1.heap.size y.1 w5 := ⟨hb5.os, hb5.tape, hb5.output, hb5.size, hb5.block⟩)
        | (go_at_call 24; (have hpm := programMade_calls t At nt (lowI p) (some lad) lc w5 (HTY.out ⟨w5, hb5'⟩) htn HS.out HR5.out (by omega) hc5; rw [HV2.out, if_pos rfl] at hpm; refine hpm.mono ?_; clear hpm; rintro e w6 ⟨rfl, hb6⟩; have HB6 : Hid (Below w.heap.size w w6 ∧ Rd encL 4 w6 (some lad) (lowI p) ∧ lad.block < w6.heap.size) := Lib.hid ⟨below_trans (HYW.out ⟨w5, hb5'⟩) hb6, HR5.out.ext ⟨w6, hb6⟩, Nat.lt_of_lt_of_le hl5 hb6.size⟩; have c6 : w6.cell? ⟨w.heap.size, 0, none⟩ = some (.slice At t.length nt) := b1 ⟨w6, below_trans hb5' hb6⟩)))
      go_wp2
      go_ret2
      obtain ⟨h1, h2, h3⟩ := HB6.out
      exact ⟨some lad, (lowI p).length, by unfold lwOut; rw [HOK.out, HV2.out]; rfl, by unfold lwOut; rw [HOK.out, if_pos HV2.out]; exact h2, fun ad e => (by cases e; exact h3), by unfold lwOut; rw [HOK.out, if_pos HV2.out]; exact Nat.le_refl _, h1⟩
    · have HV2 := Lib.hid (Bool.eq_false_iff.mpr hv2)
      clear hv2
      go_enter Try.func7, Try.ntmps7
      go_upto_region 3 with (go_at_call 16; refine (calls_ext0 (W := (w.alloc (.cells #[.slice At t.length nt] 24))) (validProg_calls t At nt p A c _ (HT.out.alloc _) htn HS.out (HP.out.alloc _) hn)).mono ?_; rw [HV.out]; rintro e w3 ⟨rfl, y, rfl⟩)
      have c0 := b0 y
      have HTY : Hid (∀ z : Ext y.1, Rd encC 2 z.1 At t) := Lib.hid fun z => ((HT.out.alloc _).ext y).ext z
      have HPY := Lib.hid ((HP.out.alloc (.cells #[.slice At t.length nt] 24)).ext y)
      have HYW : Hid (∀ z : Ext y.1, Below w.heap.size w z.1) := Lib.hid fun z => below_trans (below_trans (below_alloc (Below.refl _ _) _) y.2) z.2
      have b1 : ∀ z : Ext y.1, z.1.cell? ⟨w.heap.size, 0, none⟩ = some (.slice At t.length nt) := fun z => z.cell c0
      clear b0
      go_region_held3 (fun w' => w'.cell? ⟨w.heap.size, 0, none⟩ = some (.slice At t.length nt)) (first | assumption | exact b1 ⟨_, by assumption⟩ | exact b1 ⟨_, Below.refl _ _⟩) (first
        | (go_at_call 25; refine (loweredI_calls _ p A c _ rfl h24 hc HD.out (by exact HPY.out)).mono ?_; rintro e5 w5 ⟨lad, lc, rfl, hr5, hf5, hl5, hc5, hb5⟩; have HR5 := Lib.hid hr5; have hb5' : Below y.1.heap.size y.1 w5 := ⟨hb5.os, hb5.tape, hb5.output, hb5.size, hb5.block⟩)
        | (go_at_call 24; (have hpm := programMade_calls t At nt (lowI p) (some lad) lc w5 (HTY.out ⟨w5, hb5'⟩) htn HS.out HR5.out (by omega) hc5; rw [HV2.out, if_neg (by decide)] at hpm; refine hpm.mono ?_; clear hpm; rintro e w6 ⟨rfl, hb6⟩; have HB6 : Hid (Below w.heap.size w w6 ∧ Rd encL 4 w6 (some lad) (lowI p) ∧ lad.block < w6.heap.size) := Lib.hid ⟨below_trans (HYW.out ⟨w5, hb5'⟩) hb6, HR5.out.ext ⟨w6, hb6⟩, Nat.lt_of_lt_of_le hl5 hb6.size⟩; have c6 : w6.cell? ⟨w.heap.size, 0, none⟩ = some (.slice At t.length nt) := b1 ⟨w6, below_trans hb5' hb6⟩)))
      go_wp2
      go_ret2
      obtain ⟨h1, h2, h3⟩ := HB6.out
      exact ⟨none, 0, by unfold lwOut; rw [HOK.out, HV2.out]; rfl, by unfold lwOut; rw [HOK.out, HV2.out]; exact Rd.nil, fun ad e => (by cases e), by unfold lwOut; rw [HOK.out, HV2.out]; exact Nat.le_refl _, h1⟩
  · have HV := Lib.hid (Bool.eq_false_iff.mpr hv)
    have HOK : Hid (lwOk t p = false) := Lib.hid (by unfold lwOk; rw [HV.out]; rfl)
    clear hv
    go_enter Try.func7, Try.ntmps7
    go_wp2_with (go_at_call 16; refine (calls_ext0 (W := (w.alloc (.cells #[.slice At t.length nt] 24))) (validProg_calls t At nt p A c _ (HT.out.alloc _) htn HS.out (HP.out.alloc _) hn)).mono ?_; rw [HV.out]; rintro e w3 ⟨rfl, y, rfl⟩)
    go_ret2
    exact ⟨none, 0, by unfold lwOut; rw [HOK.out]; rfl, by unfold lwOut; rw [HOK.out]; exact Rd.nil, fun ad e => (by cases e), by unfold lwOut; rw [HOK.out]; exact Nat.le_refl _, below_trans (below_alloc (Below.refl _ _) _) y.2⟩
end Go.Proofs.Ytihjakpedbaokaa.K
