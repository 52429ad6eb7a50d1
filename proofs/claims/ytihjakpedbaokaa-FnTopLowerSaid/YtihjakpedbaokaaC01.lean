/- Walks: places of a program's lines (spec): the end of a block, the next line of a try. -/
import Derived.Test.YtihjakpedbaokaaC00
namespace Go.Proofs.Ytihjakpedbaokaa.K
open Go Go.RowKit

theorem inRange_calls (a b c : Int) (w : World) :
    Calls Try.prog 76 #[.int .i64 a, .int .i64 b, .int .i64 c] w fun e w' => e = .returned (.bool (within a b c)) ∧ Below w.heap.size w w' := by
  by_cases h : b ≤ a
  all_goals
    go_enter Try.func76, Try.ntmps76
    go_wp2
    go_ret
    exact ⟨by simp [within, h, Int.not_le.mpr]; try omega, Below.refl _ _⟩
theorem sopens_calls (k : Int) (w : World) : Calls Try.prog 77 #[.int .i64 k] w fun e w' => e = .returned (.bool (opens k)) ∧ Below w.heap.size w w' := by
  go_enter Try.func77, Try.ntmps77
  go_wp2_with (go_at_call 76; refine (inRange_calls _ _ _ _).mono ?_; rintro e w1 ⟨rfl, hb⟩)
  go_ret
  exact ⟨rfl, hb⟩
theorem follows_calls (k : Int) (w : World) : Calls Try.prog 80 #[.int .i64 k] w fun e w' => e = .returned (.bool (follows k)) ∧ Below w.heap.size w w' := by
  go_enter Try.func80, Try.ntmps80
  go_wp2_with (go_at_call 76; refine (inRange_calls _ _ _ _).mono ?_; rintro e w1 ⟨rfl, hb⟩)
  go_ret
  exact ⟨rfl, hb⟩
theorem sjumps_calls (k : Int) (w : World) : Calls Try.prog 71 #[.int .i64 k] w fun e w' => e = .returned (.bool (jumps k)) ∧ Below w.heap.size w w' := by
  go_enter Try.func71, Try.ntmps71
  go_wp2_with (go_at_call 76; refine (inRange_calls _ _ _ _).mono ?_; rintro e w1 ⟨rfl, hb⟩)
  go_ret
  exact ⟨rfl, hb⟩
theorem hasClass_calls (t : Nat) (A : Option Addr) (n : Nat) (a : Int) (w : World) (hn : t ≤ 140737488351232) :
    Calls Try.prog 100 #[.agg #[.slice A t n], .int .i64 a] w fun e w' => e = .returned (.bool (hasC t a)) ∧ Below w.heap.size w w' := by
  go_enter Try.func100, Try.ntmps100
  go_wp2_with (go_at_call 76; refine (calls_ext0 (inRange_calls _ _ _ _)).mono ?_; rintro e w1 ⟨rfl, y, rfl⟩)
  go_ret
  exact ⟨rfl, below_trans (below_alloc (Below.refl _ _) _) y.2⟩

set_option maxHeartbeats 1000000 in
theorem validNumbers_calls (l : Line) (t : Nat) (A : Option Addr) (n : Nat) (w : World) (hn : t ≤ 140737488351232) :
    Calls Try.prog 75 #[.agg #[.slice A t n], .agg #[.int .i64 l.depth, .int .i64 l.kind, .int .i64 l.a, .int .i64 l.b]] w fun e w' => e = .returned (.bool (argued t l)) ∧ Below w.heap.size w w' := by
  obtain ⟨d, k, a, b⟩ := l
  have f0 : ∀ y : Ext ((w.alloc (.cells #[.slice A t n] 24)).alloc (.cells #[.int .i64 d, .int .i64 k, .int .i64 a, .int .i64 b] 37)), y.1.cell? ⟨w.heap.size + 1, 1, none⟩ = some (.int .i64 k) := fun y => y.cell (by simp [go_sem])
  have f1 : ∀ y : Ext ((w.alloc (.cells #[.slice A t n] 24)).alloc (.cells #[.int .i64 d, .int .i64 k, .int .i64 a, .int .i64 b] 37)), y.1.cell? ⟨w.heap.size + 1, 2, none⟩ = some (.int .i64 a) := fun y => y.cell (by simp [go_sem])
  have f2 : ∀ y : Ext ((w.alloc (.cells #[.slice A t n] 24)).alloc (.cells #[.int .i64 d, .int .i64 k, .int .i64 a, .int .i64 b] 37)), y.1.cell? ⟨w.heap.size + 1, 3, none⟩ = some (.int .i64 b) := fun y => y.cell (by simp [go_sem])
  have f3 : ∀ y : Ext ((w.alloc (.cells #[.slice A t n] 24)).alloc (.cells #[.int .i64 d, .int .i64 k, .int .i64 a, .int .i64 b] 37)), y.1.cell? ⟨w.heap.size, 0, none⟩ = some (.slice A t n) := fun y => y.cell (by simp [go_sem])
  have HB : Hid (∀ y : Ext ((w.alloc (.cells #[.slice A t n] 24)).alloc (.cells #[.int .i64 d, .int .i64 k, .int .i64 a, .int .i64 b] 37)), Below w.heap.size w y.1) := Lib.hid fun y => below_trans (below_alloc (below_alloc (Below.refl _ _) _) _) y.2
  go_enter Try.func75, Try.ntmps75
  go_wp2_with (first
    | (go_at_call 76; (first | (with_reducible refine (calls_ext0 (W := ((w.alloc (.cells #[.slice A t n] 24)).alloc (.cells #[.int .i64 d, .int .i64 k, .int .i64 a, .int .i64 b] 37))) (inRange_calls _ _ _ _)).mono ?_) | (with_reducible refine (calls_ext (W := ((w.alloc (.cells #[.slice A t n] 24)).alloc (.cells #[.int .i64 d, .int .i64 k, .int .i64 a, .int .i64 b] 37))) (inRange_calls _ _ _ _)).mono ?_)); rintro e w1 ⟨rfl, y, rfl⟩)
    | (go_at_call 100; (first | (with_reducible refine (calls_ext0 (W := ((w.alloc (.cells #[.slice A t n] 24)).alloc (.cells #[.int .i64 d, .int .i64 k, .int .i64 a, .int .i64 b] 37))) (hasClass_calls _ _ _ _ _ hn)).mono ?_) | (with_reducible refine (calls_ext (W := ((w.alloc (.cells #[.slice A t n] 24)).alloc (.cells #[.int .i64 d, .int .i64 k, .int .i64 a, .int .i64 b] 37))) (hasClass_calls _ _ _ _ _ hn)).mono ?_)); rintro e w1 ⟨rfl, y, rfl⟩))
  all_goals (go_ret; refine ⟨ret_bool ?_, HB.out _⟩; clear f0 f1 f2 f3 HB; unfold argued; simp_all [codeOk, within])
  all_goals omega

set_option maxHeartbeats 400000 in
theorem blockEnd_calls (p : Prg) (A : Option Addr) (c : Nat) (i : Nat) (w : World) (hp : Rd encL 4 w A p) (hn : p.length ≤ 4398046511104) (hi : i < p.length) :
    Calls Try.prog 50 #[.slice A p.length c, .int .i64 i] w fun e w' => e = .returned (.int .i64 (endOf p i)) ∧ Below w.heap.size w w' := by
  obtain ⟨ad, rfl, hab, hd, -, -, -⟩ := hp.line hi
  have HP := Lib.hid hp
  clear hp
  go_enter Try.func50, Try.ntmps50
  go_wp2
  go_loopw [5] (fun v w' => ∃ k : Nat, k ≤ p.length ∧ v = .int .i64 k ∧ Hid (endFrom p (ln p i).depth k = endOf p i) ∧ ∃ n, w' = w.drewN n) (fun v _ => p.length - (intOf v).toNat)
  case atStart => exact ⟨i + 1, hi, by go_num, rfl, 0, rfl⟩
  case round =>
    obtain ⟨k, hk, rfl, hb, n, rfl⟩ := hrel
    by_cases hlt : k < p.length
    · obtain ⟨ad', e, -, hd', -, -, -⟩ := HP.out.line hlt
      cases e
      by_cases hc : (ln p i).depth < (ln p k).depth
      · go_wp2
        go_quiet (fail)
        go_wp2
        go_roundw
        case rel => exact ⟨k + 1, hlt, by go_num, Lib.hid ((endFrom_in hlt hc).symm.trans hb.out), _, rfl⟩
        case measure => simp [intOf]; omega
      · go_wp2
        go_quiet (fail)
        go_wp2
        go_ret
        exact ⟨ret_int (by rw [← hb.out, endFrom_out (.inr (by omega))]), below_drewN (below_drewN (Below.refl _ _) _) _⟩
    · have hf : decide (k < p.length) = false := decide_eq_false hlt
      go_wp2
      go_quiet (fail)
      go_wp2
      go_ret
      exact ⟨ret_int (by rw [← hb.out, endFrom_out (.inl (by omega))]), below_drewN (below_drewN (Below.refl _ _) _) _⟩
end Go.Proofs.Ytihjakpedbaokaa.K
namespace Go.Proofs.Ytihjakpedbaokaa.K
open Go Go.RowKit

set_option maxHeartbeats 400000 in
theorem sameNext_calls (p : Prg) (A : Option Addr) (c : Nat) (i : Nat) (w : World) (hp : Rd encL 4 w A p) (hn : p.length ≤ 4398046511104) (hi : i < p.length) :
    Calls Try.prog 92 #[.slice A p.length c, .int .i64 i] w fun e w' => e = .returned (.int .i64 (sameNext p i)) ∧ Below w.heap.size w w' := by
  obtain ⟨ad, rfl, hab, hd, -, -, -⟩ := hp.line hi
  have HP := Lib.hid hp
  have d1 : ∀ x : Ext w, x.1.cell? (ad.add (i * 4)) = some (.int .i64 (ln p i).depth) := fun x => x.cell hd
  clear hp hd
  have hle := endOf_le p hi
  obtain ⟨k, hk⟩ : ∃ k, k = endOf p i := ⟨_, rfl⟩
  have HK := Lib.hid hk
  rw [← hk] at hle
  clear hk
  by_cases hlt : k < p.length
  · obtain ⟨ad', e, -, hd', -, -, -⟩ := HP.out.line hlt
    cases e
    have d2 : ∀ x : Ext w, x.1.cell? (ad.add (k * 4)) = some (.int .i64 (ln p k).depth) := fun x => x.cell hd'
    clear hd'
    by_cases hc : (ln p k).depth = (ln p i).depth
    · have HC := Lib.hid hc
      have hcb : ((ln p k).depth == (ln p i).depth) = true := by simp [hc]
      clear hc
      go_enter Try.func92, Try.ntmps92
      go_wp2_with (go_at_call 50; refine (calls_ext0 (blockEnd_calls p _ c i w HP.out hn hi)).mono ?_; rw [← HK.out]; rintro e w1 ⟨rfl, x, rfl⟩)
      refine wp_region_ext_lit' x (by kernel_rfl) (by kernel_rfl) ?_
      repeat (go_big_quiet_step (fail))
      refine wpQuiet_nil ?_
      rintro _ ⟨y, rfl⟩
      go_wp2
      go_ret
      exact ⟨ret_int (by unfold sameNext; rw [← HK.out, if_pos ⟨hlt, HC.out⟩]), y.2⟩
    · have HC := Lib.hid hc
      have hcb : ((ln p k).depth == (ln p i).depth) = false := by simp [hc]
      clear hc
      go_enter Try.func92, Try.ntmps92
      go_wp2_with (go_at_call 50; refine (calls_ext0 (blockEnd_calls p _ c i w HP.out hn hi)).mono ?_; rw [← HK.out]; rintro e w1 ⟨rfl, x, rfl⟩)
      refine wp_region_ext_lit' x (by kernel_rfl) (by kernel_rfl) ?_
      repeat (go_big_quiet_step (fail))
      refine wpQuiet_nil ?_
      rintro _ ⟨y, rfl⟩
      go_wp2
      go_ret
      exact ⟨ret_int (by unfold sameNext; rw [← HK.out, if_neg (by rintro ⟨_, h⟩; exact HC.out h)]), y.2⟩
  · have hf : decide (k < p.length) = false := decide_eq_false hlt
    go_enter Try.func92, Try.ntmps92
    go_wp2_with (go_at_call 50; refine (calls_ext0 (blockEnd_calls p _ c i w HP.out hn hi)).mono ?_; rw [← HK.out]; rintro e w1 ⟨rfl, x, rfl⟩)
    refine wp_region_ext_lit' x (by kernel_rfl) (by kernel_rfl) ?_
    repeat (go_big_quiet_step (fail))
    refine wpQuiet_nil ?_
    rintro _ ⟨y, rfl⟩
    go_wp2
    go_ret
    exact ⟨ret_int (by unfold sameNext; rw [← HK.out, if_neg (by rintro ⟨h, _⟩; exact hlt h)]), y.2⟩

set_option maxHeartbeats 400000 in
theorem headOf_calls (p : Prg) (A : Option Addr) (c : Nat) (i : Nat) (w : World) (hp : Rd encL 4 w A p) (hn : p.length ≤ 4398046511104) (hi : i < p.length) :
    Calls Try.prog 81 #[.slice A p.length c, .int .i64 i] w fun e w' => e = .returned (.int .i64 (headOf p i)) ∧ Below w.heap.size w w' := by
  obtain ⟨ad, rfl, hab, hd, -, -, -⟩ := hp.line hi
  have HP := Lib.hid hp
  clear hp
  go_enter Try.func81, Try.ntmps81
  go_wp2
  go_loopw [5] (fun v w' => ∃ k : Nat, k ≤ i ∧ v = .int .i64 ((k : Int) - 1) ∧ Hid (headGo p (ln p i).depth k = headOf p i) ∧ ∃ n, w' = w.drewN n) (fun v _ => (intOf v + 1).toNat)
  case atStart => exact ⟨i, Nat.le_refl _, rfl, rfl, 0, rfl⟩
  case round =>
    obtain ⟨k, hk, rfl, hb, n, rfl⟩ := hrel
    cases k with
    | zero =>
      go_wp2
      go_ret
      exact ⟨ret_int (by rw [← hb.out]; rfl), below_drewN (Below.refl _ _) _⟩
    | succ k =>
      have hlt : k < p.length := by omega
      obtain ⟨ad', e, -, hd', -, -, -⟩ := HP.out.line hlt
      cases e
      have hsub : ((k + 1 : Nat) : Int) - 1 = (k : Int) := by omega
      rw [hsub]
      clear hsub
      by_cases hc : (ln p k).depth < (ln p i).depth
      · go_wp2
        go_quiet (fail)
        go_wp2
        go_ret
        exact ⟨ret_int (by rw [← hb.out, headGo, if_pos hc]), below_drewN (below_drewN (Below.refl _ _) _) _⟩
      · by_cases he : (ln p k).depth = (ln p i).depth
        · have HE := Lib.hid he
          have heb : ((ln p k).depth == (ln p i).depth) = true := by simp [he]
          clear he
          go_wp2
          go_quiet (fail)
          go_wp2
          go_quiet (fail)
          go_wp2
          go_ret
          exact ⟨ret_int (by rw [← hb.out, headGo, if_neg (by omega), if_pos HE.out]), by repeat (first | exact Below.refl _ _ | apply below_drewN)⟩
        · have HE := Lib.hid he
          have heb : ((ln p k).depth == (ln p i).depth) = false := by simp [he]
          clear he
          go_wp2
          go_quiet (fail)
          go_wp2
          go_quiet (fail)
          go_wp2
          go_roundw
          case rel => exact ⟨k, by omega, rfl, Lib.hid (by rw [← hb.out, headGo, if_neg (by omega), if_neg HE.out]), _, rfl⟩
          case measure => simp [intOf] <;> omega

set_option maxHeartbeats 400000 in
theorem inLoop_calls (p : Prg) (A : Option Addr) (c : Nat) (i : Nat) (w : World) (hp : Rd encL 4 w A p) (hn : p.length ≤ 4398046511104) (hi : i < p.length) :
    Calls Try.prog 79 #[.slice A p.length c, .int .i64 i] w fun e w' => e = .returned (.bool (inLoop p i)) ∧ Below w.heap.size w w' := by
  obtain ⟨ad, rfl, hab, hd, -, -, -⟩ := hp.line hi
  have HP := Lib.hid hp
  clear hp
  go_enter Try.func79, Try.ntmps79
  go_wp2
  go_loopw [5, 6] (fun dv v w' => ∃ (k : Nat) (d : Int), k ≤ i ∧ v = .int .i64 ((k : Int) - 1) ∧ dv = .int .i64 d ∧ Hid (inLoopGo p k d = inLoop p i) ∧ ∃ n, w' = w.drewN n) (fun _ v _ => (intOf v + 1).toNat)
  case atStart => exact ⟨i, _, Nat.le_refl _, rfl, rfl, rfl, 0, rfl⟩
  case round =>
    obtain ⟨k, d, hk, rfl, rfl, hb, n, rfl⟩ := hrel
    cases k with
    | zero =>
      go_wp2
      go_ret
      exact ⟨ret_bool (by rw [← hb.out]; rfl), below_drewN (Below.refl _ _) _⟩
    | succ k =>
      have hlt : k < p.length := by omega
      obtain ⟨ad', e, -, hd', hk', -, -⟩ := HP.out.line hlt
      cases e
      have hsub : ((k + 1 : Nat) : Int) - 1 = (k : Int) := by omega
      rw [hsub]
      clear hsub
      by_cases hc : (ln p k).depth < d
      · by_cases he : (ln p k).kind = 12
        · have HE := Lib.hid he
          have heb : ((ln p k).kind == 12) = true := by simp [he]
          clear he
          go_wp2
          go_ret
          exact ⟨ret_bool (by rw [← hb.out, inLoopGo, if_pos hc, if_pos HE.out]), below_drewN (Below.refl _ _) _⟩
        · have HE := Lib.hid he
          have heb : ((ln p k).kind == 12) = false := by simp [he]
          clear he
          go_wp2
          go_roundw
          case rel => exact ⟨k, _, by omega, rfl, rfl, Lib.hid (by rw [← hb.out, inLoopGo, if_pos hc, if_neg HE.out]), _, rfl⟩
          case measure => simp [intOf] <;> omega
      · go_wp2
        go_roundw
        case rel => exact ⟨k, _, by omega, rfl, rfl, Lib.hid (by rw [← hb.out, inLoopGo, if_neg hc]), _, rfl⟩
        case measure => simp [intOf] <;> omega
end Go.Proofs.Ytihjakpedbaokaa.K
namespace Go.Proofs.Ytihjakpedbaokaa.K
open Go Go.RowKit

theorem elemInt : Elem Try.prog 29 3 1 8 (.int .i64 0) := ⟨Try.underlying29, by kernel_rfl, rfl, by omega⟩
theorem elemLine : Elem Try.prog 25 37 4 32 (.agg #[.int .i64 0, .int .i64 0, .int .i64 0, .int .i64 0]) := ⟨Try.underlying25, by kernel_rfl, rfl, by omega⟩

/-- A call hands back a list of places in memory of its own. -/
def RetN (w : World) (l : List Nat) (e : Ending) (w' : World) : Prop :=
  ∃ A c, e = .returned (.slice A l.length c) ∧ Rd encN 1 w' A l ∧ (∀ ad, A = some ad → w.heap.size ≤ ad.block) ∧ l.length ≤ c ∧ Below w.heap.size w w'
theorem retN_of_own {w w' : World} {v : Value} {l : List Nat} (h : Own encN 1 3 w.heap.size w' v l) (hb : Below w.heap.size w w') : RetN w l (.returned v) w' := by
  obtain ⟨A, c, rfl, hr, hf, hc⟩ := h.form encN_len
  exact ⟨A, c, rfl, hr, fun ad e => (hf ad e).1, hc, hb⟩

theorem chainFrom_yes {p : Prg} {k : Nat} (h : k < p.length) (hf : follows (ln p k).kind = true) : chainFrom p k = k :: chainFrom p (sameNext p k) := by rw [chainFrom, if_pos ⟨h, hf⟩]
theorem chainFrom_no {p : Prg} {k : Nat} (h : ¬ (k < p.length ∧ follows (ln p k).kind = true)) : chainFrom p k = [] := by rw [chainFrom, if_neg h]
theorem len_of_append {l r m : List Nat} (h : l ++ r = m) : l.length ≤ m.length := by rw [← h]; simp

theorem chainFrom_len (p : Prg) : ∀ (m k : Nat), p.length - k = m → (chainFrom p k).length ≤ m := by
  intro m
  induction m using Nat.strongRecOn with
  | ind m ih =>
    intro k h
    rw [chainFrom]
    split
    · rename_i hc
      have := sameNext_gt p hc.1
      have := ih (p.length - sameNext p k) (by omega) _ rfl
      simp only [List.length_cons]; omega
    · simp
theorem chainOf_len (p : Prg) (i : Nat) : (chainOf p i).length ≤ p.length + 1 := by
  unfold chainOf; have := chainFrom_len p _ (sameNext p i) rfl; simp only [List.length_cons]; omega

set_option maxHeartbeats 1000000 in
set_option maxRecDepth 100000 in
theorem chainOf_calls (p : Prg) (A : Option Addr) (c : Nat) (i : Nat) (w : World) (hp : Rd encL 4 w A p) (hn : p.length ≤ 4398046511104) (hi : i < p.length) :
    Calls Try.prog 57 #[.slice A p.length c, .int .i64 i] w (RetN w (chainOf p i)) := by
  have HP := Lib.hid hp
  have hcl := chainOf_len p i
  clear hp
  go_enter Try.func57, Try.ntmps57
  go_wp2_with (go_at_call 92; refine (calls_ext0 (W := (w.alloc (.cells #[.int .i64 i] 3))) (sameNext_calls p A c i _ (HP.out.alloc _) hn hi)).mono ?_; rintro e w1 ⟨rfl, x, rfl⟩)
  go_loopw [5, 6] (fun v kv w' => ∃ (k : Nat) (l : List Nat), k ≤ p.length ∧ kv = .int .i64 k ∧ Hid (l ++ chainFrom p k = chainOf p i) ∧ Own encN 1 3 w.heap.size w' v l ∧ Below w.heap.size w w') (fun _ kv _ => p.length - (intOf kv).toNat)
  case atStart => exact ⟨sameNext p i, [i], sameNext_le p i, rfl, rfl, (Own.lit w #[.int .i64 i] [i] (Nat.le_refl _) (by simp [maxLen]) encN_len rfl).ext x, below_trans (below_alloc (Below.refl _ _) _) x.2⟩
  case round =>
    obtain ⟨k, l, hk, rfl, hb, ho, hx⟩ := hrel
    have hll := len_of_append hb.out
    have HO := Lib.hid ho
    have HR : Hid (∀ y : Ext wr, Rd encL 4 y.1 A p) := Lib.hid fun y => (HP.out.ext ⟨wr, hx⟩).ext y
    have HX : Hid (∀ y : Ext wr, Below w.heap.size w y.1) := Lib.hid fun y => below_trans hx y.2
    by_cases hlt : k < p.length
    · obtain ⟨ad, rfl, hab, -, hkd, -, -⟩ := HP.out.line hlt
      have g := (⟨wr, hx⟩ : Ext w).cell hkd
      change wr.cell? _ = _ at g
      clear ho hx hkd
      by_cases hf : follows (ln p k).kind = true
      · have HF := Lib.hid hf
        clear hf
        go_wp2_with (first
          | (go_at_call 80; refine (calls_ext0 (W := wr) (follows_calls _ _)).mono ?_; rw [HF.out]; rintro e w1 ⟨rfl, y, rfl⟩)
          | (at_builtin; refine wpList_append_elem elemInt rfl (.tmp 27) (.tmp 29) rfl (v := u5) rfl ((HO.out.ext y).alloc _) k ⟨y.1.heap.size, 0, none⟩ 1 rfl rfl (fun j u hj => by match j, hj with | 0, hj => simp [encN] at hj; subst hj; simp [Addr.add]) (fun u hu => by simp [encN] at hu; subst hu; rfl) (by omega) (by omega) (by have := (HX.out y).size; simp; omega) ?_; intro v1 w2 ho1 hg1; have hb2 := own_below (below_alloc (HX.out y) _) ((HO.out.ext y).alloc _) hg1 (by have := (HX.out y).size; simp; omega); have HO1 := Lib.hid ho1; clear ho1 hg1)
          | (go_at_call 92; refine (calls_ext0 (W := w2) (sameNext_calls p _ c k w2 (HP.out.ext ⟨w2, hb2⟩) hn hlt)).mono ?_; rintro e w3 ⟨rfl, x3, rfl⟩))
        go_roundw
        case rel => exact ⟨sameNext p k, l ++ [k], sameNext_le p k, rfl, Lib.hid (by rw [← hb.out, chainFrom_yes hlt HF.out]; simp), HO1.out.ext x3, below_trans hb2 x3.2⟩
        case measure => have := sameNext_gt p hlt; simp [intOf]; omega
      · have HF := Lib.hid (Bool.eq_false_iff.mpr hf)
        clear hf
        go_wp2_with (go_at_call 80; refine (calls_ext0 (W := wr) (follows_calls _ _)).mono ?_; rw [HF.out]; rintro e w1 ⟨rfl, y, rfl⟩)
        go_ret
        exact retN_of_own (by rw [← hb.out, chainFrom_no (by rw [HF.out]; simp), List.append_nil]; exact HO.out.ext y) (HX.out y)
    · go_wp2
      go_ret
      exact retN_of_own (by rw [← hb.out, chainFrom_no (by omega), List.append_nil]; exact HO.out) (HX.out ⟨wr, Below.refl _ _⟩)
end Go.Proofs.Ytihjakpedbaokaa.K
namespace Go.Proofs.Ytihjakpedbaokaa.K
open Go Go.RowKit

theorem chainFrom_mem (p : Prg) : ∀ (m k : Nat), p.length - k = m → ∀ x ∈ chainFrom p k, x < p.length := by
  intro m
  induction m using Nat.strongRecOn with
  | ind m ih =>
    intro k h x hx
    rw [chainFrom] at hx
    split at hx
    · rename_i hc
      have := sameNext_gt p hc.1
      rcases List.mem_cons.1 hx with rfl | hx
      · exact hc.1
      · exact ih (p.length - sameNext p k) (by omega) _ rfl x hx
    · cases hx
theorem chainOf_mem {p : Prg} {i : Nat} (hi : i < p.length) : ∀ x ∈ chainOf p i, x < p.length := by
  intro x hx
  rcases List.mem_cons.1 hx with rfl | hx
  · exact hi
  · exact chainFrom_mem p _ _ rfl x hx
theorem chainOf_at {p : Prg} {i k : Nat} (hi : i < p.length) (hk : k < (chainOf p i).length) : (chainOf p i).getD k 0 < p.length := by
  refine chainOf_mem hi _ ?_
  simp [List.getElem?_eq_getElem hk]

set_option maxHeartbeats 2000000 in
set_option maxRecDepth 100000 in
theorem validChain_calls (p : Prg) (A : Option Addr) (c : Nat) (i : Nat) (w : World) (hp : Rd encL 4 w A p) (hn : p.length ≤ 4398046511104) (hi : i < p.length) :
    Calls Try.prog 78 #[.slice A p.length c, .int .i64 i] w fun e w' => e = .returned (.bool (validChain p i)) ∧ Below w.heap.size w w' := by
  have HP := Lib.hid hp
  have hcl := chainOf_len p i
  have HM := Lib.hid (fun k => @chainOf_at p i k hi)
  clear hp
  obtain ⟨l, hl⟩ : ∃ l, l = chainOf p i := ⟨_, rfl⟩
  have HL := Lib.hid hl
  rw [← hl] at HM hcl
  clear hl
  go_enter Try.func78, Try.ntmps78
  go_wp2_with (go_at_call 57; refine (chainOf_calls p A c i _ HP.out hn hi).mono ?_; rw [← HL.out]; rintro e w1 ⟨A1, c1, rfl, hr1, hf1, _, hb1⟩)
  have HR1 := Lib.hid hr1
  clear hr1
  go_loopw [6, 7, 8] (fun ev kv _ w' => ∃ (k ex : Nat), 1 ≤ k ∧ k ≤ l.length + 1 ∧ ex < k ∧ kv = .int .i64 k ∧ ev = .int .i64 ex ∧ Hid (chainOkGo p l k ex = validChain p i) ∧ w' = w1) (fun _ kv _ _ => (l.length + 1) - (intOf kv).toNat)
  case atStart => exact ⟨1, 0, by omega, by omega, by omega, rfl, rfl, Lib.hid (by unfold validChain; rw [← HL.out]), rfl⟩
  case round =>
    obtain ⟨k, ex, hk1, hk, hex, rfl, rfl, hb, rfl⟩ := hrel
    by_cases hlt : k < l.length
    · obtain ⟨ad1, rfl, hab1, g1⟩ := HR1.out.nat hlt
      obtain ⟨_, e, -, g2⟩ := HR1.out.nat (show k - 1 < l.length by omega)
      cases e
      have m1 := HM.out _ hlt
      have m2 := HM.out _ (show k - 1 < l.length by omega)
      have HB := hb.out
      rw [chainOkGo, if_pos hlt] at HB
      obtain ⟨a, ha⟩ : ∃ a, a = l.getD k 0 := ⟨_, rfl⟩
      obtain ⟨b, hbb⟩ : ∃ b, b = l.getD (k - 1) 0 := ⟨_, rfl⟩
      rw [← ha] at g1 m1 HB
      rw [← hbb] at g2 m2 HB
      obtain ⟨ad, rfl, hab, -, ka, -, -⟩ := HP.out.line m1
      obtain ⟨_, e, -, -, kb, -, -⟩ := HP.out.line m2
      cases e
      have ka' := (⟨_, hb1⟩ : Ext w).cell ka
      have kb' := (⟨_, hb1⟩ : Ext w).cell kb
      obtain ⟨u, hu⟩ : ∃ u, u = (ln p a).kind := ⟨_, rfl⟩
      obtain ⟨v, hv⟩ : ∃ v, v = (ln p b).kind := ⟨_, rfl⟩
      rw [← hu] at ka' HB
      rw [← hv] at kb' HB
      simp only [] at ka' kb'
      have hkm : (k : Int) - 1 = ((k - 1 : Nat) : Int) := by omega
      replace HB := Lib.hid HB
      clear hb ha hbb hu hv ka kb
      go_wp2
      all_goals first
        | (go_ret; exact ⟨ret_bool (by have h := HB.out; grind), hb1⟩)
        | (go_roundw
           case rel => first | exact ⟨k + 1, ex + 1, by omega, by omega, by omega, by go_num, by go_num, Lib.hid (by have h := HB.out; grind), trivial⟩ | exact ⟨k + 1, ex, by omega, by omega, by omega, by go_num, by go_num, Lib.hid (by have h := HB.out; grind), trivial⟩
           case measure => simp [intOf]; omega)
    · have HB := hb.out
      rw [chainOkGo, if_neg hlt] at HB
      replace HB := Lib.hid HB
      clear hb
      go_wp2
      all_goals (go_ret; exact ⟨ret_bool (by have h := HB.out; grind), hb1⟩)
end Go.Proofs.Ytihjakpedbaokaa.K
namespace Go.Proofs.Ytihjakpedbaokaa.K
open Go Go.RowKit

set_option maxHeartbeats 400000 in
theorem validName_calls (s : ByteArray) (w : World) (hs : s.size ≤ 140737488351232) :
    Calls Try.prog 82 #[.string s] w fun e w' => e = .returned (.bool (nameOk s)) ∧ Below w.heap.size w w' := by
  go_enter Try.func82, Try.ntmps82
  go_wp2
  go_loopw [3] (fun v w' => ∃ k : Nat, k ≤ s.size ∧ v = .int .i64 k ∧ Hid (allFrom s.size (nameByte s) k = allFrom s.size (nameByte s) 0) ∧ Below w.heap.size w w') (fun v _ => s.size - (intOf v).toNat)
  case atStart => exact ⟨0, Nat.zero_le _, rfl, rfl, Below.refl _ _⟩
  case round =>
    obtain ⟨k, hk, rfl, hb, hx⟩ := hrel
    by_cases hlt : k < s.size
    · have HB := Lib.hid ((allFrom_lt hlt).symm.trans hb.out)
      clear hb
      have hnb : nameByte s k = (decide (97 ≤ s[k].toNat) && decide (s[k].toNat ≤ 122)) := by unfold nameByte; rw [dif_pos hlt]
      have HN := Lib.hid hnb
      clear hnb
      by_cases h1 : 97 ≤ (s[k].toNat : Int)
      · by_cases h2 : (s[k].toNat : Int) ≤ 122
        · go_wp2
          go_roundw
          case rel => exact ⟨k + 1, hlt, by go_num, Lib.hid (by have := HB.out; rw [HN.out, decide_eq_true (by omega), decide_eq_true (by omega)] at this; simpa using this), hx⟩
          case measure => simp [intOf]; omega
        · go_wp2
          go_ret
          exact ⟨ret_bool (by have := HB.out; rw [HN.out, decide_eq_true (by omega), decide_eq_false (by omega)] at this; unfold nameOk; rw [← this]; simp), hx⟩
      · go_wp2
        go_ret
        exact ⟨ret_bool (by have := HB.out; rw [HN.out, decide_eq_false (by omega)] at this; unfold nameOk; rw [← this]; simp), hx⟩
    · have hb1 := hb.out
      rw [allFrom_ge (by omega)] at hb1
      have HB := Lib.hid hb1
      clear hb hb1
      obtain ⟨x, rfl⟩ := Ext.step0 hx
      go_wp2_with (go_at_call 76; refine (calls_ext (inRange_calls _ _ _ _)).mono ?_; rintro e w1 ⟨rfl, y, rfl⟩)
      go_ret
      exact ⟨ret_bool (by unfold nameOk; rw [← HB.out]; simp), y.2⟩
set_option maxHeartbeats 400000 in
theorem classNamed_calls (t : Tree) (A : Option Addr) (m n : Nat) (s : ByteArray) (w : World) (ht : Rd encC 2 w A t) (hm : t.length = m) (hn : t.length ≤ 140737488351232) :
    Calls Try.prog 83 #[.slice A m n, .string s] w fun e w' => e = .returned (.int .i64 (named t s)) ∧ Below w.heap.size w w' := by
  subst hm
  have HT := Lib.hid ht
  clear ht
  go_enter Try.func83, Try.ntmps83
  go_wp2
  go_loopw [5] (fun v w' => ∃ k : Nat, k ≤ t.length ∧ v = .int .i64 k ∧ Hid (idxFrom t.length (fun i => sameName (cl t i).name s) k = named t s) ∧ ∃ n, w' = w.drewN n) (fun v _ => t.length - (intOf v).toNat)
  case atStart => exact ⟨0, Nat.zero_le _, rfl, rfl, 0, rfl⟩
  case round =>
    obtain ⟨k, hk, rfl, hb, n, rfl⟩ := hrel
    by_cases hlt : k < t.length
    · obtain ⟨ad, rfl, hbl, h0, -⟩ := HT.out.cls hlt
      have HB := hb.out
      by_cases he : sameName (cl t k).name s = true
      · rw [idxFrom_hit hlt he] at HB
        replace HB := Lib.hid HB
        clear hb
        have he' : ((cl t k).name.toList == s.toList) = true := he
        clear he
        go_wp2
        go_ret
        exact ⟨ret_int HB.out, below_drewN (Below.refl _ _) _⟩
      · rw [idxFrom_miss hlt (Bool.eq_false_iff.mpr he)] at HB
        replace HB := Lib.hid HB
        clear hb
        have he' : ((cl t k).name.toList == s.toList) = false := Bool.eq_false_iff.mpr he
        clear he
        go_wp2
        go_roundw
        case rel => exact ⟨k + 1, hlt, by go_num, HB, _, rfl⟩
        case measure => simp [intOf]; omega
    · have HB := hb.out
      rw [idxFrom_end (by omega)] at HB
      replace HB := Lib.hid HB
      clear hb
      go_wp2
      go_ret
      exact ⟨ret_int HB.out, below_drewN (Below.refl _ _) _⟩

set_option maxHeartbeats 2000000 in
set_option maxRecDepth 100000 in
theorem validTreeS_calls (t : Tree) (A : Option Addr) (n : Nat) (w : World) (ht : Rd encC 2 w A t) (hn : t.length ≤ 140737488351232) (hcap : t.length ≤ n) (hs : Sized t) :
    Calls Try.prog 49 #[.agg #[.slice A t.length n]] w fun e w' => e = .returned (.bool (validTreeS t)) ∧ Below w.heap.size w w' := by
  have HT := Lib.hid ht
  have HS := Lib.hid hs
  clear ht hs
  go_enter Try.func49, Try.ntmps49
  go_wp2
  go_loopw [3] (fun v w' => ∃ k : Nat, k ≤ t.length ∧ v = .int .i64 k ∧ Hid (allFrom t.length (clsOkS t) k = allFrom t.length (clsOkS t) 0) ∧ Below (w.heap.size + 1) (w.alloc (.cells #[.slice A t.length n] 24)) w') (fun v _ => t.length - (intOf v).toNat)
  case atStart => exact ⟨0, Nat.zero_le _, rfl, rfl, Below.refl _ _⟩
  case round =>
    obtain ⟨k, hk, rfl, hb, hx⟩ := hrel
    have hcT : wr.cell? ⟨w.heap.size, 0, none⟩ = some (.slice A t.length n) := (hx.cell (p := ⟨w.heap.size, 0, none⟩) (by simp)).trans (by simp)
    have hlt0 : w.heap.size < wr.heap.size := Nat.lt_of_lt_of_le (by simp) hx.size
    by_cases hlt : k < t.length
    · obtain ⟨ad, rfl, hbl, h0, h1⟩ := HT.out.cls hlt
      have HB := Lib.hid ((allFrom_lt hlt).symm.trans hb.out)
      clear hb
      have g0 : wr.cell? (ad.add (k * 2)) = some (.string (cl t k).name) := (hx.cell (by rw [block_of_add]; omega)).trans (by rw [World.cell?_alloc_lt _ _ _ (by rw [block_of_add]; exact hbl)]; exact h0)
      have g1 : wr.cell? ⟨(ad.add (k * 2)).block, (ad.add (k * 2)).off + 1, none⟩ = some (.int .i64 (cl t k).parent) := (hx.cell (by simp [block_of_add]; omega)).trans (by rw [World.cell?_alloc_lt _ _ _ (by simp [block_of_add]; exact hbl)]; exact h1)
      clear h0 h1
      have hsz := HS.out k hlt
      obtain ⟨nm, hnm⟩ : ∃ nm, nm = (cl t k).name := ⟨_, rfl⟩
      obtain ⟨pa, hpa⟩ : ∃ pa, pa = (cl t k).parent := ⟨_, rfl⟩
      rw [← hnm] at g0 hsz
      rw [← hpa] at g1
      obtain ⟨nd, hnd⟩ : ∃ nd, nd = named (t.take k) nm := ⟨_, rfl⟩
      have HG : Hid (clsOkS t k = (nameOk nm && decide (nd < 0) && (if k = 0 then pa == -1 else within pa 0 (k - 1)))) := by rw [hnd, hnm, hpa]; rfl
      have HN := Lib.hid hnd
      clear hnm hpa hnd
      have c1 : ∀ y : Ext (wr.alloc (.cells #[.string nm, .int .i64 pa] 86)), y.1.cell? ⟨wr.heap.size, 0, none⟩ = some (.string nm) := fun y => y.cell (by simp)
      have c2 : ∀ y : Ext (wr.alloc (.cells #[.string nm, .int .i64 pa] 86)), y.1.cell? ⟨wr.heap.size, 1, none⟩ = some (.int .i64 pa) := fun y => y.cell (by simp)
      have c3 : ∀ y : Ext (wr.alloc (.cells #[.string nm, .int .i64 pa] 86)), y.1.cell? ⟨w.heap.size, 0, none⟩ = some (.slice (some ad) t.length n) := fun y => y.cell (by rw [World.cell?_alloc_lt _ _ _ hlt0]; exact hcT)
      have HR : Hid (∀ y : Ext (wr.alloc (.cells #[.string nm, .int .i64 pa] 86)), Rd encC 2 y.1 (some ad) t) := Lib.hid fun y => (((HT.out.alloc _).below hx (by rintro _ ⟨⟩; omega)).alloc _).ext y
      have HX : Hid (∀ y : Ext (wr.alloc (.cells #[.string nm, .int .i64 pa] 86)), Below (w.heap.size + 1) (w.alloc (.cells #[.slice (some ad) t.length n] 24)) y.1) := Lib.hid fun y => hx.trans ((Below.refl _ _).alloc (by omega) _ |>.trans (y.2.mono (by simp; omega)))
      have HY : Hid (∀ y : Ext (wr.alloc (.cells #[.string nm, .int .i64 pa] 86)), Below w.heap.size w y.1) := Lib.hid fun y => (below_alloc (Below.refl _ _) _).trans ((HX.out y).mono (by omega))
      by_cases h1 : nameOk nm = true
      · have H1 := Lib.hid h1
        clear h1
        by_cases h2 : nd < 0
        · have H2 := Lib.hid (decide_eq_true h2)
          have h2' : decide ((0 : Int) ≤ nd) = false := decide_eq_false (by omega)
          by_cases h0 : k = 0
          · have HK := Lib.hid h0
            have hk0 : (k : Int) ≤ 0 := by omega
            have hk1 : ((k : Int) == 0) = true := by simp [h0]
            have hk2 : decide (0 < k) = false := decide_eq_false (by omega)
            clear h0
            by_cases h3 : pa = -1
            · have H3 := Lib.hid h3
              have h3' : (pa != -1) = false := by simp [h3]
              clear h3
              go_wp2_with fail
              refine wp_region_ext_lit (by kernel_rfl) (by kernel_rfl) ?_
              repeat (go_big_quiet_step ((first | (go_at_call 82; exact calls_ext (calls_val (validName_calls nm _ hsz) (congrArg Value.bool H1.out))) | (go_at_call 83; exact calls_ext (calls_val (classNamed_calls (t.take k) _ k _ nm _ ((HR.out _).take k) (by simp; omega) (by simp; omega)) (congrArg (Value.int .i64) HN.out.symm))))))
              refine wpQuiet_nil ?_
              rintro _ ⟨y, rfl⟩
              go_wp2
              go_roundw
              case rel => exact ⟨k + 1, hlt, by go_num, Lib.hid (by have := HB.out; rw [HG.out, H1.out, H2.out, if_pos HK.out, H3.out] at this; simpa using this), HX.out y⟩
              case measure => simp [intOf]; omega
            · have H3 := Lib.hid h3
              have h3' : (pa != -1) = true := by simp [h3]
              clear h3
              go_wp2_with fail
              refine wp_region_ext_lit (by kernel_rfl) (by kernel_rfl) ?_
              repeat (go_big_quiet_step ((first | (go_at_call 82; exact calls_ext (calls_val (validName_calls nm _ hsz) (congrArg Value.bool H1.out))) | (go_at_call 83; exact calls_ext (calls_val (classNamed_calls (t.take k) _ k _ nm _ ((HR.out _).take k) (by simp; omega) (by simp; omega)) (congrArg (Value.int .i64) HN.out.symm))))))
              refine wpQuiet_nil ?_
              rintro _ ⟨y, rfl⟩
              go_wp2
              go_ret
              exact ⟨ret_bool (by have := HB.out; rw [HG.out, H1.out, H2.out, if_pos HK.out, beq_eq_false_iff_ne.mpr H3.out] at this; unfold validTreeS; rw [← this]; simp), HY.out y⟩
          · have HK := Lib.hid h0
            have hk0 : 0 < (k : Int) := by omega
            have hk1 : ((k : Int) == 0) = false := by simp [h0]
            have hk2 : decide (0 < k) = true := decide_eq_true (by omega)
            clear h0
            by_cases h4 : within pa 0 (k - 1) = true
            · have H4 := Lib.hid h4
              clear h4
              go_wp2_with fail
              refine wp_region_ext_lit (by kernel_rfl) (by kernel_rfl) ?_
              repeat (go_big_quiet_step ((first | (go_at_call 82; exact calls_ext (calls_val (validName_calls nm _ hsz) (congrArg Value.bool H1.out))) | (go_at_call 83; exact calls_ext (calls_val (classNamed_calls (t.take k) _ k _ nm _ ((HR.out _).take k) (by simp; omega) (by simp; omega)) (congrArg (Value.int .i64) HN.out.symm))) | (go_at_call 76; exact calls_ext (calls_val (inRange_calls _ _ _ _) (congrArg Value.bool H4.out))))))
              refine wpQuiet_nil ?_
              rintro _ ⟨y, rfl⟩
              go_wp2
              go_roundw
              case rel => exact ⟨k + 1, hlt, by go_num, Lib.hid (by have := HB.out; rw [HG.out, H1.out, H2.out, if_neg HK.out, H4.out] at this; simpa using this), HX.out y⟩
              case measure => simp [intOf]; omega
            · have H4 := Lib.hid (Bool.eq_false_iff.mpr h4)
              clear h4
              go_wp2_with fail
              refine wp_region_ext_lit (by kernel_rfl) (by kernel_rfl) ?_
              repeat (go_big_quiet_step ((first | (go_at_call 82; exact calls_ext (calls_val (validName_calls nm _ hsz) (congrArg Value.bool H1.out))) | (go_at_call 83; exact calls_ext (calls_val (classNamed_calls (t.take k) _ k _ nm _ ((HR.out _).take k) (by simp; omega) (by simp; omega)) (congrArg (Value.int .i64) HN.out.symm))) | (go_at_call 76; exact calls_ext (calls_val (inRange_calls _ _ _ _) (congrArg Value.bool H4.out))))))
              refine wpQuiet_nil ?_
              rintro _ ⟨y, rfl⟩
              go_wp2
              go_ret
              exact ⟨ret_bool (by have := HB.out; rw [HG.out, H1.out, H2.out, if_neg HK.out, H4.out] at this; unfold validTreeS; rw [← this]; simp), HY.out y⟩
        · have H2 := Lib.hid (decide_eq_false h2)
          have h2' : decide ((0 : Int) ≤ nd) = true := decide_eq_true (by omega)
          go_wp2_with fail
          refine wp_region_ext_lit (by kernel_rfl) (by kernel_rfl) ?_
          repeat (go_big_quiet_step ((first | (go_at_call 82; exact calls_ext (calls_val (validName_calls nm _ hsz) (congrArg Value.bool H1.out))) | (go_at_call 83; exact calls_ext (calls_val (classNamed_calls (t.take k) _ k _ nm _ ((HR.out _).take k) (by simp; omega) (by simp; omega)) (congrArg (Value.int .i64) HN.out.symm))))))
          refine wpQuiet_nil ?_
          rintro _ ⟨y, rfl⟩
          go_wp2
          go_ret
          exact ⟨ret_bool (by have := HB.out; rw [HG.out, H1.out, H2.out] at this; unfold validTreeS; rw [← this]; simp), HY.out y⟩
      · have H1 := Lib.hid (Bool.eq_false_iff.mpr h1)
        clear h1
        go_wp2_with fail
        refine wp_region_ext_lit (by kernel_rfl) (by kernel_rfl) ?_
        repeat (go_big_quiet_step (((go_at_call 82; exact calls_ext (calls_val (validName_calls nm _ hsz) (congrArg Value.bool H1.out))))))
        refine wpQuiet_nil ?_
        rintro _ ⟨y, rfl⟩
        go_wp2
        go_ret
        exact ⟨ret_bool (by have := HB.out; rw [HG.out, H1.out] at this; unfold validTreeS; rw [← this]; simp), HY.out y⟩
    · have hb1 := hb.out
      rw [allFrom_ge (by omega)] at hb1
      have HB := Lib.hid hb1
      clear hb hb1
      obtain ⟨x, rfl⟩ := Ext.step0 ((below_alloc (Below.refl w.heap.size w) _).trans (hx.mono (by omega)))
      go_wp2_with (go_at_call 76; refine (calls_ext (inRange_calls _ _ _ _)).mono ?_; rintro e w1 ⟨rfl, y, rfl⟩)
      go_ret
      exact ⟨ret_bool (by unfold validTreeS; rw [← HB.out]; simp), y.2⟩
end Go.Proofs.Ytihjakpedbaokaa.K
namespace Go.Proofs.Ytihjakpedbaokaa.K
open Go Go.RowKit

theorem cell_alloc {w : World} {a : Addr} {v : Value} (o : Obj) (h : w.cell? a = some v) : (w.alloc o).cell? a = some v := (⟨w.alloc o, below_alloc (Below.refl _ _) o⟩ : Ext w).cell h
set_option maxHeartbeats 4000000 in
set_option maxRecDepth 100000 in
theorem validLine_calls (t : Nat) (At : Option Addr) (nt : Nat) (p : Prg) (A : Option Addr) (c : Nat) (i : Nat) (w : World) (ht : t ≤ 140737488351232) (hp : Rd encL 4 w A p) (hn : p.length ≤ 4398046511104) (hi : i < p.length) (hprev : 0 < i → 0 ≤ (ln p (i - 1)).depth ∧ (ln p (i - 1)).depth ≤ 5) :
    Calls Try.prog 48 #[.agg #[.slice At t nt], .slice A p.length c, .int .i64 i] w fun e w' => e = .returned (.bool (validLine t p i)) ∧ Below w.heap.size w w' := by
  obtain ⟨ad, rfl, hab, g0, g1, g2, g3⟩ := hp.line hi
  have HP := Lib.hid hp
  clear hp
  obtain ⟨x, hx⟩ : ∃ x, x = ln p i := ⟨_, rfl⟩
  rw [← hx] at g0 g1 g2 g3
  obtain ⟨d, kd, a, b⟩ := x
  simp only [] at g0 g1 g2 g3
  have e0 := cell_alloc (.cells #[.slice At t nt] 24) g0
  have e1 := cell_alloc (.cells #[.slice At t nt] 24) g1
  have e2 := cell_alloc (.cells #[.slice At t nt] 24) g2
  have e3 := cell_alloc (.cells #[.slice At t nt] 24) g3
  clear g0 g1 g2 g3
  have c0 : ∀ y : Ext ((w.alloc (.cells #[.slice At t nt] 24)).alloc (.cells #[.int .i64 d, .int .i64 kd, .int .i64 a, .int .i64 b] 37)), y.1.cell? ⟨w.heap.size + 1, 0, none⟩ = some (.int .i64 d) := fun y => y.cell (by simp [go_sem])
  have c1 : ∀ y : Ext ((w.alloc (.cells #[.slice At t nt] 24)).alloc (.cells #[.int .i64 d, .int .i64 kd, .int .i64 a, .int .i64 b] 37)), y.1.cell? ⟨w.heap.size + 1, 1, none⟩ = some (.int .i64 kd) := fun y => y.cell (by simp [go_sem])
  have HR : Hid (∀ y : Ext ((w.alloc (.cells #[.slice At t nt] 24)).alloc (.cells #[.int .i64 d, .int .i64 kd, .int .i64 a, .int .i64 b] 37)), Rd encL 4 y.1 (some ad) p) := Lib.hid fun y => ((HP.out.alloc _).alloc _).ext y
  have HY : Hid (∀ y : Ext ((w.alloc (.cells #[.slice At t nt] 24)).alloc (.cells #[.int .i64 d, .int .i64 kd, .int .i64 a, .int .i64 b] 37)), Below w.heap.size w y.1) := Lib.hid fun y => below_trans (below_alloc (below_alloc (Below.refl _ _) _) _) y.2
  have HX := Lib.hid hx
  clear hx
  by_cases h1 : argued t ⟨d, kd, a, b⟩ = true
  · have H1 := Lib.hid h1
    clear h1
    by_cases h2 : within d 0 5 = true
    · have H2 := Lib.hid h2
      clear h2
      obtain ⟨vc, hvc⟩ : ∃ vc, vc = validChain p i := ⟨_, rfl⟩
      obtain ⟨il, hil⟩ : ∃ il, il = inLoop p i := ⟨_, rfl⟩
      obtain ⟨hh, hho⟩ : ∃ hh, hh = headOf p i := ⟨_, rfl⟩
      obtain ⟨hk, hhk⟩ : ∃ hk, hk = (ln p hh.toNat).kind := ⟨_, rfl⟩
      have hhl : hh < p.length := by have := headGo_lt p (ln p i).depth i; rw [hho]; unfold headOf; omega
      have ch : ∀ y : Ext ((w.alloc (.cells #[.slice At t nt] 24)).alloc (.cells #[.int .i64 d, .int .i64 kd, .int .i64 a, .int .i64 b] 37)), y.1.cell? ⟨(ad.add (hh.toNat * 4)).block, (ad.add (hh.toNat * 4)).off + 1, none⟩ = some (.int .i64 hk) := fun y => by
        obtain ⟨_, e, -, -, g, -, -⟩ := (HR.out y).line (show hh.toNat < p.length by omega)
        cases e
        rw [hhk]; exact g
      have HGOOD : Hid (badPlace p i = false → validLine t p i = (!((kd == 7 && !vc) || ((kd == 5 || kd == 6) && !il)) && (!follows kd || (decide (0 ≤ hh) && (hk == 7 || follows hk))))) := Lib.hid fun hb => by
        unfold validLine badKind headed
        rw [← hvc, ← hil, ← hho, ← hhk, ← HX.out, hb, H1.out, H2.out]; rfl
      have HBAD : Hid (badPlace p i = true → false = validLine t p i) := Lib.hid fun hb => by
        unfold validLine
        rw [hb]; simp
      have HVC := Lib.hid hvc
      have HIL := Lib.hid hil
      have HHO := Lib.hid hho
      clear hvc hil hho hhk
      obtain ⟨pd, hpd⟩ : ∃ pd, pd = (ln p (i - 1)).depth := ⟨_, rfl⟩
      obtain ⟨pk, hpk⟩ : ∃ pk, pk = (ln p (i - 1)).kind := ⟨_, rfl⟩
      have HBP : Hid (badPlace p i = ((i == 0 && d != 0) || (decide (0 < i) && (decide (pd + 1 < d) || (opens pk != (d == pd + 1)))) || (i + 1 == p.length && opens kd))) := Lib.hid (by
        unfold badPlace; rw [← HX.out, ← hpd, ← hpk])
      have cp0 : ∀ y : Ext ((w.alloc (.cells #[.slice At t nt] 24)).alloc (.cells #[.int .i64 d, .int .i64 kd, .int .i64 a, .int .i64 b] 37)), y.1.cell? (ad.add ((i - 1) * 4)) = some (.int .i64 pd) := fun y => by
        obtain ⟨_, e, -, g, -, -, -⟩ := (HR.out y).line (show i - 1 < p.length by omega)
        cases e
        rw [hpd]; exact g
      have cp1 : ∀ y : Ext ((w.alloc (.cells #[.slice At t nt] 24)).alloc (.cells #[.int .i64 d, .int .i64 kd, .int .i64 a, .int .i64 b] 37)), y.1.cell? ⟨(ad.add ((i - 1) * 4)).block, (ad.add ((i - 1) * 4)).off + 1, none⟩ = some (.int .i64 pk) := fun y => by
        obtain ⟨_, e, -, -, g, -, -⟩ := (HR.out y).line (show i - 1 < p.length by omega)
        cases e
        rw [hpk]; exact g
      rw [← hpd] at hprev
      clear hpd hpk
      by_cases hi0 : i = 0
      · have HI := Lib.hid hi0
        have hi1 : ((i : Int) == 0) = true := by simp [hi0]
        have hi2 : decide (0 < i) = false := by simp [hi0]
        clear hi0 hprev cp0 cp1
        by_cases hd0 : d = 0
        · have HD := Lib.hid hd0
          have hd1 : (d != 0) = false := by simp [hd0]
          clear hd0
          by_cases hl : i + 1 = p.length
          · have HL := Lib.hid hl
            have hl' : ((i : Int) + 1 == (p.length : Int)) = true := by simp; omega
            clear hl
            by_cases ho : opens kd = true
            · have HP2 := Lib.hid ho
              clear ho
              go_enter Try.func48, Try.ntmps48
              go_wp2_with (first | (go_at_call 75; refine (calls_ext0 (W := ((w.alloc (.cells #[.slice At t nt] 24)).alloc (.cells #[.int .i64 d, .int .i64 kd, .int .i64 a, .int .i64 b] 37))) (validNumbers_calls ⟨d, kd, a, b⟩ _ _ _ _ ht)).mono ?_; rw [H1.out]; rintro e w1 ⟨rfl, y, rfl⟩) | (go_at_call 76; refine (calls_ext (W := ((w.alloc (.cells #[.slice At t nt] 24)).alloc (.cells #[.int .i64 d, .int .i64 kd, .int .i64 a, .int .i64 b] 37))) (inRange_calls _ _ _ _)).mono ?_; rw [H2.out]; rintro e w1 ⟨rfl, y2, rfl⟩))
              refine wp_region_ext_lit' y2 (by kernel_rfl) (by kernel_rfl) ?_
              repeat (go_big_quiet_step (((go_at_call 77; exact calls_ext (calls_val (sopens_calls _ _) (congrArg Value.bool HP2.out))))))
              refine wpQuiet_nil ?_
              rintro _ ⟨y3, rfl⟩
              go_wp2
              go_ret
              exact ⟨ret_bool (HBAD.out (by rw [HBP.out]; simp [HI.out, HD.out, (by have := HL.out; have := HI.out; omega : 1 = p.length), HP2.out])), HY.out _⟩
            · have HP2 := Lib.hid (Bool.eq_false_iff.mpr ho)
              clear ho
              go_enter Try.func48, Try.ntmps48
              go_wp2_with (first | (go_at_call 75; refine (calls_ext0 (W := ((w.alloc (.cells #[.slice At t nt] 24)).alloc (.cells #[.int .i64 d, .int .i64 kd, .int .i64 a, .int .i64 b] 37))) (validNumbers_calls ⟨d, kd, a, b⟩ _ _ _ _ ht)).mono ?_; rw [H1.out]; rintro e w1 ⟨rfl, y, rfl⟩) | (go_at_call 76; refine (calls_ext (W := ((w.alloc (.cells #[.slice At t nt] 24)).alloc (.cells #[.int .i64 d, .int .i64 kd, .int .i64 a, .int .i64 b] 37))) (inRange_calls _ _ _ _)).mono ?_; rw [H2.out]; rintro e w1 ⟨rfl, y2, rfl⟩))
              refine wp_region_ext_lit' y2 (by kernel_rfl) (by kernel_rfl) ?_
              repeat (go_big_quiet_step (((go_at_call 77; exact calls_ext (calls_val (sopens_calls _ _) (congrArg Value.bool HP2.out))))))
              refine wpQuiet_nil ?_
              rintro _ ⟨y3, rfl⟩
              have HV := Lib.hid (HGOOD.out (by rw [HBP.out]; simp [HI.out, HD.out, HP2.out]))
              go_wp2_with (first | (go_at_call 78; refine (calls_ext (W := ((w.alloc (.cells #[.slice At t nt] 24)).alloc (.cells #[.int .i64 d, .int .i64 kd, .int .i64 a, .int .i64 b] 37))) (validChain_calls p (some ad) c i _ (HR.out _) hn hi)).mono ?_; rw [← HVC.out]; rintro e w3 ⟨rfl, z, rfl⟩) | (go_at_call 79; refine (calls_ext (W := ((w.alloc (.cells #[.slice At t nt] 24)).alloc (.cells #[.int .i64 d, .int .i64 kd, .int .i64 a, .int .i64 b] 37))) (inLoop_calls p (some ad) c i _ (HR.out _) hn hi)).mono ?_; rw [← HIL.out]; rintro e w3 ⟨rfl, z, rfl⟩) | (go_at_call 80; refine (calls_ext (W := ((w.alloc (.cells #[.slice At t nt] 24)).alloc (.cells #[.int .i64 d, .int .i64 kd, .int .i64 a, .int .i64 b] 37))) (follows_calls _ _)).mono ?_; rintro e w3 ⟨rfl, z, rfl⟩) | (go_at_call 81; refine (calls_ext (W := ((w.alloc (.cells #[.slice At t nt] 24)).alloc (.cells #[.int .i64 d, .int .i64 kd, .int .i64 a, .int .i64 b] 37))) (headOf_calls p (some ad) c i _ (HR.out _) hn hi)).mono ?_; rw [← HHO.out]; rintro e w3 ⟨rfl, z, rfl⟩))
              all_goals (go_ret; exact ⟨ret_bool (by rw [HV.out]; simp [*] <;> (intro _; omega)), HY.out _⟩)
          · have HL := Lib.hid hl
            have hl' : ((i : Int) + 1 == (p.length : Int)) = false := by simp; omega
            clear hl
            go_enter Try.func48, Try.ntmps48
            go_wp2_with (first | (go_at_call 75; refine (calls_ext0 (W := ((w.alloc (.cells #[.slice At t nt] 24)).alloc (.cells #[.int .i64 d, .int .i64 kd, .int .i64 a, .int .i64 b] 37))) (validNumbers_calls ⟨d, kd, a, b⟩ _ _ _ _ ht)).mono ?_; rw [H1.out]; rintro e w1 ⟨rfl, y, rfl⟩) | (go_at_call 76; refine (calls_ext (W := ((w.alloc (.cells #[.slice At t nt] 24)).alloc (.cells #[.int .i64 d, .int .i64 kd, .int .i64 a, .int .i64 b] 37))) (inRange_calls _ _ _ _)).mono ?_; rw [H2.out]; rintro e w1 ⟨rfl, y2, rfl⟩))
            refine wp_region_ext_lit' y2 (by kernel_rfl) (by kernel_rfl) ?_
            repeat (go_big_quiet_step ((fail)))
            refine wpQuiet_nil ?_
            rintro _ ⟨y3, rfl⟩
            have HV := Lib.hid (HGOOD.out (by rw [HBP.out]; simp [HI.out, HD.out]; intro h; have := HL.out; have := HI.out; omega))
            go_wp2_with (first | (go_at_call 78; refine (calls_ext (W := ((w.alloc (.cells #[.slice At t nt] 24)).alloc (.cells #[.int .i64 d, .int .i64 kd, .int .i64 a, .int .i64 b] 37))) (validChain_calls p (some ad) c i _ (HR.out _) hn hi)).mono ?_; rw [← HVC.out]; rintro e w3 ⟨rfl, z, rfl⟩) | (go_at_call 79; refine (calls_ext (W := ((w.alloc (.cells #[.slice At t nt] 24)).alloc (.cells #[.int .i64 d, .int .i64 kd, .int .i64 a, .int .i64 b] 37))) (inLoop_calls p (some ad) c i _ (HR.out _) hn hi)).mono ?_; rw [← HIL.out]; rintro e w3 ⟨rfl, z, rfl⟩) | (go_at_call 80; refine (calls_ext (W := ((w.alloc (.cells #[.slice At t nt] 24)).alloc (.cells #[.int .i64 d, .int .i64 kd, .int .i64 a, .int .i64 b] 37))) (follows_calls _ _)).mono ?_; rintro e w3 ⟨rfl, z, rfl⟩) | (go_at_call 81; refine (calls_ext (W := ((w.alloc (.cells #[.slice At t nt] 24)).alloc (.cells #[.int .i64 d, .int .i64 kd, .int .i64 a, .int .i64 b] 37))) (headOf_calls p (some ad) c i _ (HR.out _) hn hi)).mono ?_; rw [← HHO.out]; rintro e w3 ⟨rfl, z, rfl⟩))
            all_goals (go_ret; exact ⟨ret_bool (by rw [HV.out]; simp [*] <;> (intro _; omega)), HY.out _⟩)
        · have HD := Lib.hid hd0
          have hd1 : (d != 0) = true := by simp [hd0]
          clear hd0
          go_enter Try.func48, Try.ntmps48
          go_wp2_with (first | (go_at_call 75; refine (calls_ext0 (W := ((w.alloc (.cells #[.slice At t nt] 24)).alloc (.cells #[.int .i64 d, .int .i64 kd, .int .i64 a, .int .i64 b] 37))) (validNumbers_calls ⟨d, kd, a, b⟩ _ _ _ _ ht)).mono ?_; rw [H1.out]; rintro e w1 ⟨rfl, y, rfl⟩) | (go_at_call 76; refine (calls_ext (W := ((w.alloc (.cells #[.slice At t nt] 24)).alloc (.cells #[.int .i64 d, .int .i64 kd, .int .i64 a, .int .i64 b] 37))) (inRange_calls _ _ _ _)).mono ?_; rw [H2.out]; rintro e w1 ⟨rfl, y2, rfl⟩))
          refine wp_region_ext_lit' y2 (by kernel_rfl) (by kernel_rfl) ?_
          repeat (go_big_quiet_step ((fail)))
          refine wpQuiet_nil ?_
          rintro _ ⟨y3, rfl⟩
          go_wp2
          go_ret
          exact ⟨ret_bool (HBAD.out (by rw [HBP.out]; simp [HI.out, HD.out])), HY.out _⟩
      · have HI := Lib.hid hi0
        have hi1 : ((i : Int) == 0) = false := by simp [hi0]
        have hi2 : decide (0 < i) = true := by simp; omega
        have hi3 : (i : Int) - 1 = ((i - 1 : Nat) : Int) := by omega
        obtain ⟨hp0, hp5⟩ := hprev (by omega)
        clear hi0 hprev
        by_cases hgt : pd + 1 < d
        · have HG := Lib.hid hgt
          have hg1 : decide (pd + 1 < d) = true := by simp [hgt]
          clear hgt
          go_enter Try.func48, Try.ntmps48
          go_wp2_with (first | (go_at_call 75; refine (calls_ext0 (W := ((w.alloc (.cells #[.slice At t nt] 24)).alloc (.cells #[.int .i64 d, .int .i64 kd, .int .i64 a, .int .i64 b] 37))) (validNumbers_calls ⟨d, kd, a, b⟩ _ _ _ _ ht)).mono ?_; rw [H1.out]; rintro e w1 ⟨rfl, y, rfl⟩) | (go_at_call 76; refine (calls_ext (W := ((w.alloc (.cells #[.slice At t nt] 24)).alloc (.cells #[.int .i64 d, .int .i64 kd, .int .i64 a, .int .i64 b] 37))) (inRange_calls _ _ _ _)).mono ?_; rw [H2.out]; rintro e w1 ⟨rfl, y2, rfl⟩))
          refine wp_region_ext_lit' y2 (by kernel_rfl) (by kernel_rfl) ?_
          repeat (go_big_quiet_step ((fail)))
          refine wpQuiet_nil ?_
          rintro _ ⟨y3, rfl⟩
          go_wp2
          go_ret
          exact ⟨ret_bool (HBAD.out (by rw [HBP.out]; simp [HI.out, Nat.pos_of_ne_zero HI.out, HG.out])), HY.out _⟩
        · have HG := Lib.hid hgt
          have hg1 : decide (pd + 1 < d) = false := by simpa using hgt
          clear hgt
          by_cases ho1 : opens pk = true
          · have HP1 := Lib.hid ho1
            clear ho1
            by_cases he : d = pd + 1
            · have HE := Lib.hid he
              have he1 : (d == pd + 1) = true := by simp [he]
              clear he
              by_cases hl : i + 1 = p.length
              · have HL := Lib.hid hl
                have hl' : ((i : Int) + 1 == (p.length : Int)) = true := by simp; omega
                clear hl
                by_cases ho : opens kd = true
                · have HP2 := Lib.hid ho
                  clear ho
                  go_enter Try.func48, Try.ntmps48
                  go_wp2_with (first | (go_at_call 75; refine (calls_ext0 (W := ((w.alloc (.cells #[.slice At t nt] 24)).alloc (.cells #[.int .i64 d, .int .i64 kd, .int .i64 a, .int .i64 b] 37))) (validNumbers_calls ⟨d, kd, a, b⟩ _ _ _ _ ht)).mono ?_; rw [H1.out]; rintro e w1 ⟨rfl, y, rfl⟩) | (go_at_call 76; refine (calls_ext (W := ((w.alloc (.cells #[.slice At t nt] 24)).alloc (.cells #[.int .i64 d, .int .i64 kd, .int .i64 a, .int .i64 b] 37))) (inRange_calls _ _ _ _)).mono ?_; rw [H2.out]; rintro e w1 ⟨rfl, y2, rfl⟩))
                  refine wp_region_ext_lit' y2 (by kernel_rfl) (by kernel_rfl) ?_
                  repeat (go_big_quiet_step ((first | (go_at_call 77; exact calls_ext (calls_val (sopens_calls _ _) (congrArg Value.bool HP1.out))) | (go_at_call 77; exact calls_ext (calls_val (sopens_calls _ _) (congrArg Value.bool HP2.out))))))
                  refine wpQuiet_nil ?_
                  rintro _ ⟨y3, rfl⟩
                  go_wp2
                  go_ret
                  exact ⟨ret_bool (HBAD.out (by rw [HBP.out]; simp [HI.out, Nat.pos_of_ne_zero HI.out, HG.out, HP1.out, HE.out, HL.out, HP2.out])), HY.out _⟩
                · have HP2 := Lib.hid (Bool.eq_false_iff.mpr ho)
                  clear ho
                  go_enter Try.func48, Try.ntmps48
                  go_wp2_with (first | (go_at_call 75; refine (calls_ext0 (W := ((w.alloc (.cells #[.slice At t nt] 24)).alloc (.cells #[.int .i64 d, .int .i64 kd, .int .i64 a, .int .i64 b] 37))) (validNumbers_calls ⟨d, kd, a, b⟩ _ _ _ _ ht)).mono ?_; rw [H1.out]; rintro e w1 ⟨rfl, y, rfl⟩) | (go_at_call 76; refine (calls_ext (W := ((w.alloc (.cells #[.slice At t nt] 24)).alloc (.cells #[.int .i64 d, .int .i64 kd, .int .i64 a, .int .i64 b] 37))) (inRange_calls _ _ _ _)).mono ?_; rw [H2.out]; rintro e w1 ⟨rfl, y2, rfl⟩))
                  refine wp_region_ext_lit' y2 (by kernel_rfl) (by kernel_rfl) ?_
                  repeat (go_big_quiet_step ((first | (go_at_call 77; exact calls_ext (calls_val (sopens_calls _ _) (congrArg Value.bool HP1.out))) | (go_at_call 77; exact calls_ext (calls_val (sopens_calls _ _) (congrArg Value.bool HP2.out))))))
                  refine wpQuiet_nil ?_
                  rintro _ ⟨y3, rfl⟩
                  have HV := Lib.hid (HGOOD.out (by rw [HBP.out]; simp [HI.out, Nat.pos_of_ne_zero HI.out, HG.out, HP1.out, HE.out, HP2.out]))
                  go_wp2_with (first | (go_at_call 78; refine (calls_ext (W := ((w.alloc (.cells #[.slice At t nt] 24)).alloc (.cells #[.int .i64 d, .int .i64 kd, .int .i64 a, .int .i64 b] 37))) (validChain_calls p (some ad) c i _ (HR.out _) hn hi)).mono ?_; rw [← HVC.out]; rintro e w3 ⟨rfl, z, rfl⟩) | (go_at_call 79; refine (calls_ext (W := ((w.alloc (.cells #[.slice At t nt] 24)).alloc (.cells #[.int .i64 d, .int .i64 kd, .int .i64 a, .int .i64 b] 37))) (inLoop_calls p (some ad) c i _ (HR.out _) hn hi)).mono ?_; rw [← HIL.out]; rintro e w3 ⟨rfl, z, rfl⟩) | (go_at_call 80; refine (calls_ext (W := ((w.alloc (.cells #[.slice At t nt] 24)).alloc (.cells #[.int .i64 d, .int .i64 kd, .int .i64 a, .int .i64 b] 37))) (follows_calls _ _)).mono ?_; rintro e w3 ⟨rfl, z, rfl⟩) | (go_at_call 81; refine (calls_ext (W := ((w.alloc (.cells #[.slice At t nt] 24)).alloc (.cells #[.int .i64 d, .int .i64 kd, .int .i64 a, .int .i64 b] 37))) (headOf_calls p (some ad) c i _ (HR.out _) hn hi)).mono ?_; rw [← HHO.out]; rintro e w3 ⟨rfl, z, rfl⟩))
                  all_goals (go_ret; exact ⟨ret_bool (by rw [HV.out]; simp [*] <;> (intro _; omega)), HY.out _⟩)
              · have HL := Lib.hid hl
                have hl' : ((i : Int) + 1 == (p.length : Int)) = false := by simp; omega
                clear hl
                go_enter Try.func48, Try.ntmps48
                go_wp2_with (first | (go_at_call 75; refine (calls_ext0 (W := ((w.alloc (.cells #[.slice At t nt] 24)).alloc (.cells #[.int .i64 d, .int .i64 kd, .int .i64 a, .int .i64 b] 37))) (validNumbers_calls ⟨d, kd, a, b⟩ _ _ _ _ ht)).mono ?_; rw [H1.out]; rintro e w1 ⟨rfl, y, rfl⟩) | (go_at_call 76; refine (calls_ext (W := ((w.alloc (.cells #[.slice At t nt] 24)).alloc (.cells #[.int .i64 d, .int .i64 kd, .int .i64 a, .int .i64 b] 37))) (inRange_calls _ _ _ _)).mono ?_; rw [H2.out]; rintro e w1 ⟨rfl, y2, rfl⟩))
                refine wp_region_ext_lit' y2 (by kernel_rfl) (by kernel_rfl) ?_
                repeat (go_big_quiet_step (((go_at_call 77; exact calls_ext (calls_val (sopens_calls _ _) (congrArg Value.bool HP1.out))))))
                refine wpQuiet_nil ?_
                rintro _ ⟨y3, rfl⟩
                have HV := Lib.hid (HGOOD.out (by rw [HBP.out]; simp [HI.out, Nat.pos_of_ne_zero HI.out, HG.out, HP1.out, HE.out, HL.out]))
                go_wp2_with (first | (go_at_call 78; refine (calls_ext (W := ((w.alloc (.cells #[.slice At t nt] 24)).alloc (.cells #[.int .i64 d, .int .i64 kd, .int .i64 a, .int .i64 b] 37))) (validChain_calls p (some ad) c i _ (HR.out _) hn hi)).mono ?_; rw [← HVC.out]; rintro e w3 ⟨rfl, z, rfl⟩) | (go_at_call 79; refine (calls_ext (W := ((w.alloc (.cells #[.slice At t nt] 24)).alloc (.cells #[.int .i64 d, .int .i64 kd, .int .i64 a, .int .i64 b] 37))) (inLoop_calls p (some ad) c i _ (HR.out _) hn hi)).mono ?_; rw [← HIL.out]; rintro e w3 ⟨rfl, z, rfl⟩) | (go_at_call 80; refine (calls_ext (W := ((w.alloc (.cells #[.slice At t nt] 24)).alloc (.cells #[.int .i64 d, .int .i64 kd, .int .i64 a, .int .i64 b] 37))) (follows_calls _ _)).mono ?_; rintro e w3 ⟨rfl, z, rfl⟩) | (go_at_call 81; refine (calls_ext (W := ((w.alloc (.cells #[.slice At t nt] 24)).alloc (.cells #[.int .i64 d, .int .i64 kd, .int .i64 a, .int .i64 b] 37))) (headOf_calls p (some ad) c i _ (HR.out _) hn hi)).mono ?_; rw [← HHO.out]; rintro e w3 ⟨rfl, z, rfl⟩))
                all_goals (go_ret; exact ⟨ret_bool (by rw [HV.out]; simp [*] <;> (intro _; omega)), HY.out _⟩)
            · have HE := Lib.hid he
              have he1 : (d == pd + 1) = false := by simp [he]
              clear he
              go_enter Try.func48, Try.ntmps48
              go_wp2_with (first | (go_at_call 75; refine (calls_ext0 (W := ((w.alloc (.cells #[.slice At t nt] 24)).alloc (.cells #[.int .i64 d, .int .i64 kd, .int .i64 a, .int .i64 b] 37))) (validNumbers_calls ⟨d, kd, a, b⟩ _ _ _ _ ht)).mono ?_; rw [H1.out]; rintro e w1 ⟨rfl, y, rfl⟩) | (go_at_call 76; refine (calls_ext (W := ((w.alloc (.cells #[.slice At t nt] 24)).alloc (.cells #[.int .i64 d, .int .i64 kd, .int .i64 a, .int .i64 b] 37))) (inRange_calls _ _ _ _)).mono ?_; rw [H2.out]; rintro e w1 ⟨rfl, y2, rfl⟩))
              refine wp_region_ext_lit' y2 (by kernel_rfl) (by kernel_rfl) ?_
              repeat (go_big_quiet_step (((go_at_call 77; exact calls_ext (calls_val (sopens_calls _ _) (congrArg Value.bool HP1.out))))))
              refine wpQuiet_nil ?_
              rintro _ ⟨y3, rfl⟩
              go_wp2
              go_ret
              exact ⟨ret_bool (HBAD.out (by rw [HBP.out]; simp [HI.out, Nat.pos_of_ne_zero HI.out, HG.out, HP1.out, HE.out])), HY.out _⟩
          · have HP1 := Lib.hid (Bool.eq_false_iff.mpr ho1)
            clear ho1
            by_cases he : d = pd + 1
            · have HE := Lib.hid he
              have he1 : (d == pd + 1) = true := by simp [he]
              clear he
              go_enter Try.func48, Try.ntmps48
              go_wp2_with (first | (go_at_call 75; refine (calls_ext0 (W := ((w.alloc (.cells #[.slice At t nt] 24)).alloc (.cells #[.int .i64 d, .int .i64 kd, .int .i64 a, .int .i64 b] 37))) (validNumbers_calls ⟨d, kd, a, b⟩ _ _ _ _ ht)).mono ?_; rw [H1.out]; rintro e w1 ⟨rfl, y, rfl⟩) | (go_at_call 76; refine (calls_ext (W := ((w.alloc (.cells #[.slice At t nt] 24)).alloc (.cells #[.int .i64 d, .int .i64 kd, .int .i64 a, .int .i64 b] 37))) (inRange_calls _ _ _ _)).mono ?_; rw [H2.out]; rintro e w1 ⟨rfl, y2, rfl⟩))
              refine wp_region_ext_lit' y2 (by kernel_rfl) (by kernel_rfl) ?_
              repeat (go_big_quiet_step (((go_at_call 77; exact calls_ext (calls_val (sopens_calls _ _) (congrArg Value.bool HP1.out))))))
              refine wpQuiet_nil ?_
              rintro _ ⟨y3, rfl⟩
              go_wp2
              go_ret
              exact ⟨ret_bool (HBAD.out (by rw [HBP.out]; simp [HI.out, Nat.pos_of_ne_zero HI.out, HG.out, HP1.out, HE.out])), HY.out _⟩
            · have HE := Lib.hid he
              have he1 : (d == pd + 1) = false := by simp [he]
              clear he
              by_cases hl : i + 1 = p.length
              · have HL := Lib.hid hl
                have hl' : ((i : Int) + 1 == (p.length : Int)) = true := by simp; omega
                clear hl
                by_cases ho : opens kd = true
                · have HP2 := Lib.hid ho
                  clear ho
                  go_enter Try.func48, Try.ntmps48
                  go_wp2_with (first | (go_at_call 75; refine (calls_ext0 (W := ((w.alloc (.cells #[.slice At t nt] 24)).alloc (.cells #[.int .i64 d, .int .i64 kd, .int .i64 a, .int .i64 b] 37))) (validNumbers_calls ⟨d, kd, a, b⟩ _ _ _ _ ht)).mono ?_; rw [H1.out]; rintro e w1 ⟨rfl, y, rfl⟩) | (go_at_call 76; refine (calls_ext (W := ((w.alloc (.cells #[.slice At t nt] 24)).alloc (.cells #[.int .i64 d, .int .i64 kd, .int .i64 a, .int .i64 b] 37))) (inRange_calls _ _ _ _)).mono ?_; rw [H2.out]; rintro e w1 ⟨rfl, y2, rfl⟩))
                  refine wp_region_ext_lit' y2 (by kernel_rfl) (by kernel_rfl) ?_
                  repeat (go_big_quiet_step ((first | (go_at_call 77; exact calls_ext (calls_val (sopens_calls _ _) (congrArg Value.bool HP1.out))) | (go_at_call 77; exact calls_ext (calls_val (sopens_calls _ _) (congrArg Value.bool HP2.out))))))
                  refine wpQuiet_nil ?_
                  rintro _ ⟨y3, rfl⟩
                  go_wp2
                  go_ret
                  exact ⟨ret_bool (HBAD.out (by rw [HBP.out]; simp [HI.out, Nat.pos_of_ne_zero HI.out, HG.out, HP1.out, HE.out, HL.out, HP2.out])), HY.out _⟩
                · have HP2 := Lib.hid (Bool.eq_false_iff.mpr ho)
                  clear ho
                  go_enter Try.func48, Try.ntmps48
                  go_wp2_with (first | (go_at_call 75; refine (calls_ext0 (W := ((w.alloc (.cells #[.slice At t nt] 24)).alloc (.cells #[.int .i64 d, .int .i64 kd, .int .i64 a, .int .i64 b] 37))) (validNumbers_calls ⟨d, kd, a, b⟩ _ _ _ _ ht)).mono ?_; rw [H1.out]; rintro e w1 ⟨rfl, y, rfl⟩) | (go_at_call 76; refine (calls_ext (W := ((w.alloc (.cells #[.slice At t nt] 24)).alloc (.cells #[.int .i64 d, .int .i64 kd, .int .i64 a, .int .i64 b] 37))) (inRange_calls _ _ _ _)).mono ?_; rw [H2.out]; rintro e w1 ⟨rfl, y2, rfl⟩))
                  refine wp_region_ext_lit' y2 (by kernel_rfl) (by kernel_rfl) ?_
                  repeat (go_big_quiet_step ((first | (go_at_call 77; exact calls_ext (calls_val (sopens_calls _ _) (congrArg Value.bool HP1.out))) | (go_at_call 77; exact calls_ext (calls_val (sopens_calls _ _) (congrArg Value.bool HP2.out))))))
                  refine wpQuiet_nil ?_
                  rintro _ ⟨y3, rfl⟩
                  have HV := Lib.hid (HGOOD.out (by rw [HBP.out]; simp [HI.out, Nat.pos_of_ne_zero HI.out, HG.out, HP1.out, HE.out, HP2.out]))
                  go_wp2_with (first | (go_at_call 78; refine (calls_ext (W := ((w.alloc (.cells #[.slice At t nt] 24)).alloc (.cells #[.int .i64 d, .int .i64 kd, .int .i64 a, .int .i64 b] 37))) (validChain_calls p (some ad) c i _ (HR.out _) hn hi)).mono ?_; rw [← HVC.out]; rintro e w3 ⟨rfl, z, rfl⟩) | (go_at_call 79; refine (calls_ext (W := ((w.alloc (.cells #[.slice At t nt] 24)).alloc (.cells #[.int .i64 d, .int .i64 kd, .int .i64 a, .int .i64 b] 37))) (inLoop_calls p (some ad) c i _ (HR.out _) hn hi)).mono ?_; rw [← HIL.out]; rintro e w3 ⟨rfl, z, rfl⟩) | (go_at_call 80; refine (calls_ext (W := ((w.alloc (.cells #[.slice At t nt] 24)).alloc (.cells #[.int .i64 d, .int .i64 kd, .int .i64 a, .int .i64 b] 37))) (follows_calls _ _)).mono ?_; rintro e w3 ⟨rfl, z, rfl⟩) | (go_at_call 81; refine (calls_ext (W := ((w.alloc (.cells #[.slice At t nt] 24)).alloc (.cells #[.int .i64 d, .int .i64 kd, .int .i64 a, .int .i64 b] 37))) (headOf_calls p (some ad) c i _ (HR.out _) hn hi)).mono ?_; rw [← HHO.out]; rintro e w3 ⟨rfl, z, rfl⟩))
                  all_goals (go_ret; exact ⟨ret_bool (by rw [HV.out]; simp [*] <;> (intro _; omega)), HY.out _⟩)
              · have HL := Lib.hid hl
                have hl' : ((i : Int) + 1 == (p.length : Int)) = false := by simp; omega
                clear hl
                go_enter Try.func48, Try.ntmps48
                go_wp2_with (first | (go_at_call 75; refine (calls_ext0 (W := ((w.alloc (.cells #[.slice At t nt] 24)).alloc (.cells #[.int .i64 d, .int .i64 kd, .int .i64 a, .int .i64 b] 37))) (validNumbers_calls ⟨d, kd, a, b⟩ _ _ _ _ ht)).mono ?_; rw [H1.out]; rintro e w1 ⟨rfl, y, rfl⟩) | (go_at_call 76; refine (calls_ext (W := ((w.alloc (.cells #[.slice At t nt] 24)).alloc (.cells #[.int .i64 d, .int .i64 kd, .int .i64 a, .int .i64 b] 37))) (inRange_calls _ _ _ _)).mono ?_; rw [H2.out]; rintro e w1 ⟨rfl, y2, rfl⟩))
                refine wp_region_ext_lit' y2 (by kernel_rfl) (by kernel_rfl) ?_
                repeat (go_big_quiet_step (((go_at_call 77; exact calls_ext (calls_val (sopens_calls _ _) (congrArg Value.bool HP1.out))))))
                refine wpQuiet_nil ?_
                rintro _ ⟨y3, rfl⟩
                have HV := Lib.hid (HGOOD.out (by rw [HBP.out]; simp [HI.out, Nat.pos_of_ne_zero HI.out, HG.out, HP1.out, HE.out, HL.out]))
                go_wp2_with (first | (go_at_call 78; refine (calls_ext (W := ((w.alloc (.cells #[.slice At t nt] 24)).alloc (.cells #[.int .i64 d, .int .i64 kd, .int .i64 a, .int .i64 b] 37))) (validChain_calls p (some ad) c i _ (HR.out _) hn hi)).mono ?_; rw [← HVC.out]; rintro e w3 ⟨rfl, z, rfl⟩) | (go_at_call 79; refine (calls_ext (W := ((w.alloc (.cells #[.slice At t nt] 24)).alloc (.cells #[.int .i64 d, .int .i64 kd, .int .i64 a, .int .i64 b] 37))) (inLoop_calls p (some ad) c i _ (HR.out _) hn hi)).mono ?_; rw [← HIL.out]; rintro e w3 ⟨rfl, z, rfl⟩) | (go_at_call 80; refine (calls_ext (W := ((w.alloc (.cells #[.slice At t nt] 24)).alloc (.cells #[.int .i64 d, .int .i64 kd, .int .i64 a, .int .i64 b] 37))) (follows_calls _ _)).mono ?_; rintro e w3 ⟨rfl, z, rfl⟩) | (go_at_call 81; refine (calls_ext (W := ((w.alloc (.cells #[.slice At t nt] 24)).alloc (.cells #[.int .i64 d, .int .i64 kd, .int .i64 a, .int .i64 b] 37))) (headOf_calls p (some ad) c i _ (HR.out _) hn hi)).mono ?_; rw [← HHO.out]; rintro e w3 ⟨rfl, z, rfl⟩))
                all_goals (go_ret; exact ⟨ret_bool (by rw [HV.out]; simp [*] <;> (intro _; omega)), HY.out _⟩)
    · have H2 := Lib.hid (Bool.eq_false_iff.mpr h2)
      clear h2
      go_enter Try.func48, Try.ntmps48
      go_wp2_with (first | (go_at_call 75; refine (calls_ext0 (W := ((w.alloc (.cells #[.slice At t nt] 24)).alloc (.cells #[.int .i64 d, .int .i64 kd, .int .i64 a, .int .i64 b] 37))) (validNumbers_calls ⟨d, kd, a, b⟩ _ _ _ _ ht)).mono ?_; rw [H1.out]; rintro e w1 ⟨rfl, y, rfl⟩) | (go_at_call 76; refine (calls_ext (W := ((w.alloc (.cells #[.slice At t nt] 24)).alloc (.cells #[.int .i64 d, .int .i64 kd, .int .i64 a, .int .i64 b] 37))) (inRange_calls _ _ _ _)).mono ?_; rw [H2.out]; rintro e w1 ⟨rfl, y2, rfl⟩))
      go_ret
      exact ⟨ret_bool (by unfold validLine; rw [← HX.out]; simp [H1.out, H2.out]), HY.out _⟩
  · have H1 := Lib.hid (Bool.eq_false_iff.mpr h1)
    clear h1
    go_enter Try.func48, Try.ntmps48
    go_wp2_with (go_at_call 75; refine (calls_ext0 (W := ((w.alloc (.cells #[.slice At t nt] 24)).alloc (.cells #[.int .i64 d, .int .i64 kd, .int .i64 a, .int .i64 b] 37))) (validNumbers_calls ⟨d, kd, a, b⟩ _ _ _ _ ht)).mono ?_; rw [H1.out]; rintro e w1 ⟨rfl, y, rfl⟩)
    go_ret
    exact ⟨ret_bool (by unfold validLine; rw [← HX.out]; simp [H1.out]), HY.out _⟩
end Go.Proofs.Ytihjakpedbaokaa.K
namespace Go.Proofs.Ytihjakpedbaokaa.K
open Go Go.RowKit

theorem allFrom_all {n k : Nat} {good : Nat → Bool} (h : allFrom n good 0 = allFrom n good k) : True := trivial

set_option maxHeartbeats 1000000 in
set_option maxRecDepth 100000 in
theorem validProgramS_calls (t : Tree) (At : Option Addr) (nt : Nat) (p : Prg) (A : Option Addr) (c : Nat) (w : World) (ht : Rd encC 2 w At t) (htn : t.length ≤ 140737488351232) (hcap : t.length ≤ nt) (hs : Sized t) (hp : Rd encL 4 w A p) (hn : p.length ≤ 4398046511104) :
    Calls Try.prog 26 #[.agg #[.slice At t.length nt], .slice A p.length c] w fun e w' => e = .returned (.bool (validProgram t p)) ∧ Below w.heap.size w w' := by
  have HT := Lib.hid ht
  have HS := Lib.hid hs
  have HP := Lib.hid hp
  clear ht hs hp
  have c0 : ∀ y : Ext (w.alloc (.cells #[.slice At t.length nt] 24)), y.1.cell? ⟨w.heap.size, 0, none⟩ = some (.slice At t.length nt) := fun y => y.cell (by simp)
  have HR : Hid (∀ y : Ext (w.alloc (.cells #[.slice At t.length nt] 24)), Rd encL 4 y.1 A p) := Lib.hid fun y => (HP.out.alloc _).ext y
  have HRT : Hid (∀ y : Ext (w.alloc (.cells #[.slice At t.length nt] 24)), Rd encC 2 y.1 At t) := Lib.hid fun y => (HT.out.alloc _).ext y
  have HY : Hid (∀ y : Ext (w.alloc (.cells #[.slice At t.length nt] 24)), Below w.heap.size w y.1) := Lib.hid fun y => below_trans (below_alloc (Below.refl _ _) _) y.2
  go_enter Try.func26, Try.ntmps26
  go_wp2
  go_loopw [5] (fun v w' => ∃ (k : Nat) (y : Ext (w.alloc (.cells #[.slice At t.length nt] 24))), w' = y.1 ∧ k ≤ p.length ∧ v = .int .i64 k ∧ Hid (∀ i, i < k → validLine t.length p i = true)) (fun v _ => p.length - (intOf v).toNat)
  case atStart => exact ⟨0, ⟨_, Below.refl _ _⟩, rfl, Nat.zero_le _, rfl, Lib.hid (fun i h => absurd h (by omega))⟩
  case round =>
    obtain ⟨k, y, rfl, hk, rfl, hb⟩ := hrel
    by_cases hlt : k < p.length
    · have HPV : Hid (0 < k → 0 ≤ (ln p (k - 1)).depth ∧ (ln p (k - 1)).depth ≤ 5) := Lib.hid fun h0 => by
        have := hb.out (k - 1) (by omega)
        unfold validLine within at this
        simp only [Bool.and_eq_true, decide_eq_true_eq] at this
        exact this.1.1.1.2
      by_cases hv : validLine t.length p k = true
      · have HV := Lib.hid hv
        clear hv
        go_wp2_with (go_at_call 48; refine (calls_ext (W := (w.alloc (.cells #[.slice At t.length nt] 24))) (validLine_calls t.length At nt p A c k _ htn (HR.out _) hn hlt HPV.out)).mono ?_; rw [HV.out]; rintro e w3 ⟨rfl, z, rfl⟩)
        go_roundw
        case rel => exact ⟨k + 1, z, rfl, hlt, by go_num, Lib.hid (fun i h => by
          rcases Nat.lt_or_eq_of_le (Nat.lt_succ_iff.1 h) with h | rfl
          · exact hb.out i h
          · exact HV.out)⟩
        case measure => simp [intOf]; omega
      · have HV := Lib.hid (Bool.eq_false_iff.mpr hv)
        clear hv
        go_wp2_with (go_at_call 48; refine (calls_ext (W := (w.alloc (.cells #[.slice At t.length nt] 24))) (validLine_calls t.length At nt p A c k _ htn (HR.out _) hn hlt HPV.out)).mono ?_; rw [HV.out]; rintro e w3 ⟨rfl, z, rfl⟩)
        go_ret
        refine ⟨ret_bool ?_, HY.out _⟩
        have : allFrom p.length (validLine t.length p) 0 = false := Bool.eq_false_iff.mpr fun h => by
          have := (allFrom_iff _ 0 rfl).1 h k (by omega) hlt
          rw [HV.out] at this; cases this
        unfold validProgram; rw [this]; rfl
    · have HA : Hid (allFrom p.length (validLine t.length p) 0 = true) := Lib.hid ((allFrom_iff _ 0 rfl).2 fun i _ h => hb.out i (by omega))
      by_cases hv : validTreeS t = true
      · have HV := Lib.hid hv
        clear hv
        go_wp2_with (go_at_call 49; refine (calls_ext (W := (w.alloc (.cells #[.slice At t.length nt] 24))) (validTreeS_calls t At nt _ (HRT.out _) htn hcap HS.out)).mono ?_; rw [HV.out]; rintro e w3 ⟨rfl, z, rfl⟩)
        go_ret
        exact ⟨ret_bool (by unfold validProgram; rw [HA.out, HV.out]; simp; omega), HY.out _⟩
      · have HV := Lib.hid (Bool.eq_false_iff.mpr hv)
        clear hv
        go_wp2_with (go_at_call 49; refine (calls_ext (W := (w.alloc (.cells #[.slice At t.length nt] 24))) (validTreeS_calls t At nt _ (HRT.out _) htn hcap HS.out)).mono ?_; rw [HV.out]; rintro e w3 ⟨rfl, z, rfl⟩)
        go_ret
        exact ⟨ret_bool (by unfold validProgram; rw [HA.out, HV.out]; simp), HY.out _⟩

set_option maxHeartbeats 400000 in
theorem checkedProgram_calls (t : Tree) (At : Option Addr) (nt : Nat) (p : Prg) (A : Option Addr) (c : Nat) (w : World) (ht : Rd encC 2 w At t) (htn : t.length ≤ 140737488351232) (hcap : t.length ≤ nt) (hs : Sized t) (hp : Rd encL 4 w A p) (hn : p.length ≤ 4398046511104) :
    Calls Try.prog 27 #[.agg #[.slice At t.length nt], .slice A p.length c] w fun e w' => e = .returned (.tuple #[if validProgram t p = true then .slice A p.length c else .slice none 0 0, .bool (validProgram t p)]) ∧ Below w.heap.size w w' := by
  have HT := Lib.hid ht
  have HS := Lib.hid hs
  have HP := Lib.hid hp
  clear ht hs hp
  have HY : Hid (∀ y : Ext (w.alloc (.cells #[.slice At t.length nt] 24)), Below w.heap.size w y.1) := Lib.hid fun y => below_trans (below_alloc (Below.refl _ _) _) y.2
  by_cases hv : validProgram t p = true
  all_goals
    first | (have HV := Lib.hid hv; clear hv) | skip
  · go_enter Try.func27, Try.ntmps27
    go_wp2_with (go_at_call 26; refine (calls_ext0 (W := (w.alloc (.cells #[.slice At t.length nt] 24))) (validProgramS_calls t At nt p A c _ (HT.out.alloc _) htn hcap HS.out (HP.out.alloc _) hn)).mono ?_; rw [HV.out]; rintro e w3 ⟨rfl, z, rfl⟩)
    go_ret2
    exact ⟨by first | rfl | (rw [HV.out]; rfl) | simp, HY.out _⟩
  · have HV := Lib.hid (Bool.eq_false_iff.mpr HV.out)
    go_enter Try.func27, Try.ntmps27
    go_wp2_with (go_at_call 26; refine (calls_ext0 (W := (w.alloc (.cells #[.slice At t.length nt] 24))) (validProgramS_calls t At nt p A c _ (HT.out.alloc _) htn hcap HS.out (HP.out.alloc _) hn)).mono ?_; rw [HV.out]; rintro e w3 ⟨rfl, z, rfl⟩)
    go_ret2
    exact ⟨by first | rfl | (rw [HV.out]; rfl) | simp, HY.out _⟩
end Go.Proofs.Ytihjakpedbaokaa.K
