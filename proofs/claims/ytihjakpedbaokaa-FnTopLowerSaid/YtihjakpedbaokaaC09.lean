/- Walk: a line of a program (impl: machine.line), whatever its kind. -/
import Derived.Test.YtihjakpedbaokaaC04
import Derived.Test.YtihjakpedbaokaaC07
import Derived.Test.YtihjakpedbaokaaC08
namespace Go.Proofs.Ytihjakpedbaokaa.K
open Go Go.RowKit

theorem line_calls (E : Env) (hE : EnvOk E) (ok : Nat → Prop) (B : Ru) (hB : BCalls E ok B) (hg : GoodR E.t.length B) (i : Nat) (hd : Int) (s : St) (m : M) (w : World) (hi : i < E.p.length) (hok : (ln E.p i).kind = 11 ∨ (ln E.p i).kind = 12 → ok i)
    (h : Mach E w m s) (hs : SOk E.t.length s) (h1 : -1 ≤ hd) (h2 : hd < s.flt.length) (hl : (lineR E.p B i hd s).2.log.length ≤ 1099511627776) (hfl : (lineR E.p B i hd s).2.flt.length ≤ 1099511627776) :
    Calls Try.prog 55 #[.pointer (some ⟨m.g, 0, none⟩), .int .i64 i, .int .i64 hd] w (MRet E w m (lineR E.p B i hd s)) := by
  have harg := hE.arg i hi
  obtain ⟨x, hx⟩ : ∃ x, x = ln E.p i := ⟨_, rfl⟩
  obtain ⟨d, k, a, b⟩ := x
  have hk : (ln E.p i).kind = k := by rw [← hx]
  have hx' := hx.symm
  rw [← hx] at harg
  by_cases k1 : k = 1
  · subst k1
    exact line_log E B i hd s m w hi h hk (by rw [lineR_1 hx'] at hl; simp [tell, mark_log] at hl; omega)
  by_cases k2 : k = 2
  · subst k2
    exact line_2 E B i hd s m w hi h hk hs.ctx h2 (by rw [lineR_2 hx', toss_len, mark_flt] at hfl; omega)
  by_cases k3 : k = 3
  · subst k3
    by_cases h0 : hd < 0
    · exact line_3y E B i hd s m w hi h hk hs.ctx h2 (by rw [lineR_3y hx' h0, toss_len, mark_flt] at hfl; omega) h0
    · exact line_3n E B i hd s m w hi h hk hs.ctx h2 (by rw [lineR_3n hx' h0] at hfl; simp only [mark_flt] at hfl; exact hfl) h0
  by_cases k4 : k = 4
  · subst k4; exact line_4 E B i hd s m w hi h hk
  by_cases k5 : k = 5
  · subst k5; exact line_5 E B i hd s m w hi h hk
  by_cases k6 : k = 6
  · subst k6; exact line_6 E B i hd s m w hi h hk
  by_cases k11 : k = 11
  · subst k11
    have ha : 0 ≤ a ∧ a ≤ 9 := by unfold argued within at harg; simp at harg; omega
    exact line_11 E B i hd s m w hi h hk ok hB (hok (.inl hk)) hs hg h1 h2 (by rw [← hx]; exact ha) hl hfl
  by_cases k12 : k = 12
  · subst k12
    have ha : 0 ≤ a ∧ a ≤ 3 := by unfold argued within at harg; simp at harg; omega
    exact line_12 E B i hd s m w hi h hk ok hB (hok (.inr hk)) hs hg h1 h2 (by rw [← hx]; exact ha) hl hfl
  exact line_pass E B i hd s m w hi h (by rintro j (rfl | rfl | rfl | rfl | rfl | rfl | rfl | rfl) <;> (rw [hk]; assumption))
end Go.Proofs.Ytihjakpedbaokaa.K
