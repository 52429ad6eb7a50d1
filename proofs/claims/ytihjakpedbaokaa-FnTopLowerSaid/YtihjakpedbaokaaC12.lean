/- Walks: a new machine; slices.Clip over lines; programMade (impl). -/
import Derived.Test.YtihjakpedbaokaaC11
namespace Go.Proofs.Ytihjakpedbaokaa.K
open Go Go.RowKit

set_option maxHeartbeats 400000 in
theorem clipL_calls (A : Option Addr) (n c : Nat) (w : World) (hc : n ≤ c) :
    Calls Try.prog 46 #[.slice A n c] w fun e w' => e = .returned (.slice A n n) ∧ Below w.heap.size w w' := by
  go_enter Try.func46, Try.ntmps46
  go_wp2
  go_ret
  exact ⟨rfl, Below.refl _ _⟩

set_option maxHeartbeats 1000000 in
theorem programMade_calls (t : Tree) (At : Option Addr) (nt : Nat) (p : Prg) (A : Option Addr) (c : Nat) (w : World) (ht : Rd encC 2 w At t) (htn : t.length ≤ 140737488351232) (hs : Sized t) (hp : Rd encL 4 w A p) (hn : p.length ≤ 4398046511104) (hc : p.length ≤ c) :
    Calls Try.prog 24 #[.agg #[.slice At t.length nt], .slice A p.length c] w fun e w' => e = .returned (.tuple #[if validProg t p = true then .slice A p.length p.length else .slice none 0 0, .bool (validProg t p)]) ∧ Below w.heap.size w w' := by
  have HT := Lib.hid ht
  have HS := Lib.hid hs
  have HP := Lib.hid hp
  clear ht hs hp
  by_cases hv : validProg t p = true
  · have HV := Lib.hid hv
    clear hv
    rw [HV.out, if_pos rfl]
    go_enter Try.func24, Try.ntmps24
    go_wp2_with (first | (go_at_call 16; refine (calls_ext0 (W := (w.alloc (.cells #[.slice At t.length nt] 24))) (validProg_calls t At nt p A c _ (HT.out.alloc _) htn HS.out (HP.out.alloc _) hn)).mono ?_; rw [HV.out]; rintro e w3 ⟨rfl, y, rfl⟩) | (go_at_call 46; refine (calls_ext (W := (w.alloc (.cells #[.slice At t.length nt] 24))) (clipL_calls A p.length c _ hc)).mono ?_; rintro e w4 ⟨rfl, y4, rfl⟩))
    go_ret2
    exact ⟨rfl, below_trans (below_alloc (Below.refl _ _) _) y4.2⟩
  · have HV := Lib.hid (Bool.eq_false_iff.mpr hv)
    clear hv
    rw [HV.out, if_neg (by decide)]
    go_enter Try.func24, Try.ntmps24
    go_wp2_with (go_at_call 16; refine (calls_ext0 (W := (w.alloc (.cells #[.slice At t.length nt] 24))) (validProg_calls t At nt p A c _ (HT.out.alloc _) htn HS.out (HP.out.alloc _) hn)).mono ?_; rw [HV.out]; rintro e w3 ⟨rfl, y, rfl⟩)
    go_ret2
    exact ⟨rfl, below_trans (below_alloc (Below.refl _ _) _) y.2⟩

/-- A new machine. -/
theorem machineOf_calls (t : Tree) (At : Option Addr) (nt : Nat) (p : Prg) (A : Option Addr) (c : Nat) (w : World) (ht : Rd encC 2 w At t) (hp : Rd encL 4 w A p) (hAt : ∀ ad, At = some ad → ad.block < w.heap.size) (hA : ∀ ad, A = some ad → ad.block < w.heap.size) :
    Calls Try.prog 29 #[.agg #[.slice At t.length nt], .slice A p.length c] w fun e w' => ∃ m, e = .returned (.pointer (some ⟨m.g, 0, none⟩)) ∧ Mach ⟨w.heap.size, t, At, nt, p, A, c⟩ w' m ⟨[], [], -1⟩ ∧ Below w.heap.size w w' := by
  have HT := Lib.hid ht
  have HP := Lib.hid hp
  have HAT := Lib.hid hAt
  have HA := Lib.hid hA
  clear ht hp hAt hA
  go_enter Try.func29, Try.ntmps29
  go_wp2
  go_ret
  refine ⟨⟨w.heap.size + 1, .slice none 0 0, .slice none 0 0⟩, rfl, ⟨?_, by show w.heap.size ≤ w.heap.size + 1; omega, Own.nil _, Own.nil _, (HP.out.alloc _).alloc _, HA.out, (HT.out.alloc _).alloc _, HAT.out⟩, below_alloc (below_alloc (Below.refl _ _) _) _⟩
  have := Blk.new (w.alloc (.cells #[.slice At t.length nt] 24)) 72 #[.slice At t.length nt, .slice A p.length c, .slice none 0 0, .slice none 0 0, .int .i64 (-1)]
  rw [show (w.alloc (.cells #[.slice At t.length nt] 24)).heap.size = w.heap.size + 1 from by simp] at this
  exact this
end Go.Proofs.Ytihjakpedbaokaa.K
