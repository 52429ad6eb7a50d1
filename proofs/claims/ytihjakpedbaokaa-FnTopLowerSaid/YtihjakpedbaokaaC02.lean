/- Walks: places of a program's lines (impl): the end of a block, the lines of a block, the lines of a try. -/
import Derived.Test.YtihjakpedbaokaaC01
import Derived.Test.YtihjakpedbaokaaC00
namespace Go.Proofs.Ytihjakpedbaokaa.K
open Go Go.RowKit

set_option maxHeartbeats 400000 in
theorem endOf_calls (p : Prg) (A : Option Addr) (c : Nat) (i : Nat) (w : World) (hp : Rd encL 4 w A p) (hn : p.length ≤ 4398046511104) (hi : i < p.length) :
    Calls Try.prog 47 #[.slice A p.length c, .int .i64 i] w fun e w' => e = .returned (.int .i64 (endOf p i)) ∧ Below w.heap.size w w' := by
  obtain ⟨ad, rfl, hab, hd, -, -, -⟩ := hp.line hi
  have HP := Lib.hid hp
  clear hp
  go_enter Try.func47, Try.ntmps47
  go_wp2
  go_loopw [5] (fun v w' => ∃ k : Nat, k ≤ p.length ∧ v = .int .i64 k ∧ Hid (endFrom p (ln p i).depth k = endOf p i) ∧ ∃ n, w' = w.drewN n) (fun v _ => p.length - (intOf v).toNat)
  case atStart => exact ⟨i + 1, hi, by go_num, rfl, 0, rfl⟩
  case round =>
    obtain ⟨k, hk, rfl, hb, n, rfl⟩ := hrel
    by_cases hlt : k < p.length
    · obtain ⟨ad', e, -, hd', -, -, -⟩ := HP.out.line hlt
      cases e
      by_cases hc : (ln p i).depth < (ln p k).depth
      · go_wp2
        go_quiet (fail)
        go_wp2
        go_roundw
        case rel => exact ⟨k + 1, hlt, by go_num, Lib.hid ((endFrom_in hlt hc).symm.trans hb.out), _, rfl⟩
        case measure => simp [intOf]; omega
      · go_wp2
        go_quiet (fail)
        go_wp2
        go_ret
        exact ⟨ret_int (by rw [← hb.out, endFrom_out (.inr (by omega))]), below_drewN (below_drewN (Below.refl _ _) _) _⟩
    · have hf : decide (k < p.length) = false := decide_eq_false hlt
      go_wp2
      go_quiet (fail)
      go_wp2
      go_ret
      exact ⟨ret_int (by rw [← hb.out, endFrom_out (.inl (by omega))]), below_drewN (below_drewN (Below.refl _ _) _) _⟩

theorem siblings_yes {p : Prg} {i to : Nat} (h : i < to) : siblings p i to = i :: siblings p (endOf p i) to := by rw [siblings, if_pos h]
theorem siblings_no {p : Prg} {i to : Nat} (h : ¬ i < to) : siblings p i to = [] := by rw [siblings, if_neg h]
theorem siblings_len (p : Prg) (to : Nat) : ∀ (m i : Nat), to - i = m → (siblings p i to).length ≤ m := by
  intro m
  induction m using Nat.strongRecOn with
  | ind m ih =>
    intro i h
    rw [siblings]
    split
    · have := endOf_gt p i
      have := ih (to - endOf p i) (by omega) _ rfl
      simp only [List.length_cons]; omega
    · simp

set_option maxHeartbeats 1000000 in
set_option maxRecDepth 100000 in
theorem siblings_calls (p : Prg) (A : Option Addr) (c : Nat) (i to : Nat) (w : World) (hp : Rd encL 4 w A p) (hn : p.length ≤ 4398046511104) (hto : to ≤ p.length) (hi : i ≤ p.length) :
    Calls Try.prog 64 #[.slice A p.length c, .int .i64 i, .int .i64 to] w (RetN w (siblings p i to)) := by
  have HP := Lib.hid hp
  have hsl := siblings_len p to _ i rfl
  clear hp
  go_enter Try.func64, Try.ntmps64
  go_wp2
  go_loopw [7, 8] (fun v kv w' => ∃ (k : Nat) (l : List Nat), k ≤ p.length ∧ kv = .int .i64 k ∧ Hid (l ++ siblings p k to = siblings p i to) ∧ Own encN 1 3 w.heap.size w' v l ∧ Below w.heap.size w w') (fun _ kv _ => to - (intOf kv).toNat)
  case atStart => exact ⟨i, [], hi, rfl, rfl, Own.lit w #[] [] (Nat.le_refl _) (by simp [maxLen]) encN_len rfl, below_alloc (Below.refl _ _) _⟩
  case round =>
    obtain ⟨k, l, hk, rfl, hb, ho, hx⟩ := hrel
    have hll := len_of_append hb.out
    have HO := Lib.hid ho
    have HX := Lib.hid hx
    clear ho hx
    by_cases hlt : k < to
    · go_wp2_with (first
        | (at_builtin; refine wpList_append_elem elemInt rfl (.tmp 17) (.tmp 19) rfl (v := u7) rfl (HO.out.alloc _) k ⟨wr.heap.size, 0, none⟩ 1 rfl rfl (fun j u hj => by match j, hj with | 0, hj => simp [encN] at hj; subst hj; simp [Addr.add]) (fun u hu => by simp [encN] at hu; subst hu; rfl) (by omega) (by omega) (by have := HX.out.size; simp; omega) ?_; intro v1 w2 ho1 hg1; have hb2 := own_below (below_alloc HX.out _) (HO.out.alloc _) hg1 (by have := HX.out.size; simp; omega); have HO1 := Lib.hid ho1; clear ho1 hg1)
        | (go_at_call 47; refine (calls_ext0 (W := w2) (endOf_calls p A c k w2 (HP.out.ext ⟨w2, hb2⟩) hn (by omega))).mono ?_; rintro e w3 ⟨rfl, x3, rfl⟩))
      go_roundw
      case rel => exact ⟨endOf p k, l ++ [k], endOf_le p (by omega), rfl, Lib.hid (by rw [← hb.out, siblings_yes hlt]; simp), HO1.out.ext x3, below_trans hb2 x3.2⟩
      case measure => have := endOf_gt p k; simp [intOf]; omega
    · go_wp2
      go_ret
      exact retN_of_own (by rw [← hb.out, siblings_no hlt, List.append_nil]; exact HO.out) HX.out

theorem tryRest_yes {p : Prg} {d : Int} {k : Nat} (h : k < p.length) (hd : (ln p k).depth = d) (hf : follows (ln p k).kind = true) : tryRest p d k = k :: tryRest p d (endOf p k) := by rw [tryRest, if_pos ⟨h, hd, hf⟩]
theorem tryRest_no {p : Prg} {d : Int} {k : Nat} (h : ¬ (k < p.length ∧ (ln p k).depth = d ∧ follows (ln p k).kind = true)) : tryRest p d k = [] := by rw [tryRest, if_neg h]
theorem tryRest_len (p : Prg) (d : Int) : ∀ (m k : Nat), p.length - k = m → (tryRest p d k).length ≤ m := by
  intro m
  induction m using Nat.strongRecOn with
  | ind m ih =>
    intro k h
    rw [tryRest]
    split
    · rename_i hc
      have := endOf_gt p k
      have := ih (p.length - endOf p k) (by omega) _ rfl
      simp only [List.length_cons]; omega
    · simp
theorem tryFrom_len (p : Prg) (i : Nat) : (tryFrom p i).length ≤ p.length + 1 := by
  unfold tryFrom; have := tryRest_len p (ln p i).depth _ (endOf p i) rfl; simp only [List.length_cons]; omega
theorem tryRest_mem (p : Prg) (d : Int) : ∀ (m k : Nat), p.length - k = m → ∀ x ∈ tryRest p d k, k ≤ x ∧ x < p.length := by
  intro m
  induction m using Nat.strongRecOn with
  | ind m ih =>
    intro k h x hx
    rw [tryRest] at hx
    split at hx
    · rename_i hc
      have := endOf_gt p k
      rcases List.mem_cons.1 hx with rfl | hx
      · exact ⟨Nat.le_refl _, hc.1⟩
      · have := ih (p.length - endOf p k) (by omega) _ rfl x hx
        exact ⟨by omega, this.2⟩
    · cases hx
theorem tryFrom_mem {p : Prg} {i : Nat} (hi : i < p.length) : ∀ x ∈ tryFrom p i, i ≤ x ∧ x < p.length := by
  intro x hx
  rcases List.mem_cons.1 hx with rfl | hx
  · exact ⟨Nat.le_refl _, hi⟩
  · have := tryRest_mem p _ _ _ rfl x hx
    have := endOf_gt p i
    exact ⟨by omega, by omega⟩
theorem tryFrom_at {p : Prg} {i : Nat} (hi : i < p.length) {k : Nat} (hk : k < (tryFrom p i).length) : i ≤ (tryFrom p i).getD k 0 ∧ (tryFrom p i).getD k 0 < p.length := by
  refine tryFrom_mem hi _ ?_
  simp [List.getElem?_eq_getElem hk]

set_option maxHeartbeats 2000000 in
set_option maxRecDepth 100000 in
theorem tryFrom_calls (p : Prg) (A : Option Addr) (c : Nat) (i : Nat) (w : World) (hp : Rd encL 4 w A p) (hn : p.length ≤ 4398046511104) (hi : i < p.length) :
    Calls Try.prog 53 #[.slice A p.length c, .int .i64 i] w (RetN w (tryFrom p i)) := by
  obtain ⟨ad, rfl, hab, g, -, -, -⟩ := hp.line hi
  have HP := Lib.hid hp
  have htl := tryFrom_len p i
  have HG := Lib.hid g
  clear hp g
  go_enter Try.func53, Try.ntmps53
  go_wp2_with (go_at_call 47; refine (calls_ext0 (W := (w.alloc (.cells #[.int .i64 i] 3))) (endOf_calls p (some ad) c i _ (HP.out.alloc _) hn hi)).mono ?_; rintro e w1 ⟨rfl, x, rfl⟩)
  go_loopw [5, 6] (fun v kv w' => ∃ (k : Nat) (l : List Nat), k ≤ p.length ∧ kv = .int .i64 k ∧ Hid (l ++ tryRest p (ln p i).depth k = tryFrom p i) ∧ Own encN 1 3 w.heap.size w' v l ∧ Below w.heap.size w w') (fun _ kv _ => p.length - (intOf kv).toNat)
  case atStart => exact ⟨endOf p i, [i], endOf_le p hi, rfl, rfl, (Own.lit w #[.int .i64 i] [i] (Nat.le_refl _) (by simp [maxLen]) encN_len rfl).ext x, below_trans (below_alloc (Below.refl _ _) _) x.2⟩
  case round =>
    obtain ⟨k, l, hk, rfl, hb, ho, hx⟩ := hrel
    have hll := len_of_append hb.out
    have HO := Lib.hid ho
    have HX := Lib.hid hx
    obtain ⟨d, hd⟩ : ∃ d, d = (ln p i).depth := ⟨_, rfl⟩
    have gi : ∀ y : Ext wr, y.1.cell? (ad.add (i * 4)) = some (.int .i64 d) := fun y => y.cell ((⟨wr, hx⟩ : Ext w).cell (by rw [hd]; exact HG.out))
    rw [← hd] at hb
    have HD := Lib.hid hd
    clear ho hx hd
    by_cases hlt : k < p.length
    · obtain ⟨_, e, -, gd, gk, -, -⟩ := (HP.out.ext ⟨wr, HX.out⟩).line hlt
      cases e
      obtain ⟨dk, hdk⟩ : ∃ dk, dk = (ln p k).depth := ⟨_, rfl⟩
      obtain ⟨kk, hkk⟩ : ∃ kk, kk = (ln p k).kind := ⟨_, rfl⟩
      rw [← hdk] at gd
      rw [← hkk] at gk
      have cd : ∀ y : Ext wr, y.1.cell? (ad.add (k * 4)) = some (.int .i64 dk) := fun y => y.cell gd
      have ck : ∀ y : Ext wr, y.1.cell? ⟨(ad.add (k * 4)).block, (ad.add (k * 4)).off + 1, none⟩ = some (.int .i64 kk) := fun y => y.cell gk
      have HDK := Lib.hid hdk
      have HKK := Lib.hid hkk
      clear gd gk hdk hkk
      by_cases he : dk = d
      · have HE := Lib.hid he
        have he' : (dk == d) = true := by simp [he]
        clear he
        by_cases hf : follows kk = true
        · have HF := Lib.hid (show within kk 8 10 = true from hf)
          clear hf
          go_wp2
          refine wp_region_ext_lit (by kernel_rfl) (by kernel_rfl) ?_
          repeat (go_big_quiet_step ((go_at_call 38; exact calls_ext (calls_val (within_calls _ _ _ _) (congrArg Value.bool HF.out)))))
          refine wpQuiet_nil ?_
          rintro _ ⟨y, rfl⟩
          go_wp2_with (first
            | (at_builtin; refine wpList_append_elem elemInt rfl (.tmp 40) (.tmp 42) rfl (v := u5) rfl ((HO.out.ext y).alloc _) k ⟨y.1.heap.size, 0, none⟩ 1 rfl rfl (fun j u hj => by match j, hj with | 0, hj => simp [encN] at hj; subst hj; simp [Addr.add]) (fun u hu => by simp [encN] at hu; subst hu; rfl) (by omega) (by omega) (by have := HX.out.size; have := y.2.size; simp; omega) ?_; intro v1 w2 ho1 hg1; have hb2 := own_below (below_alloc (below_trans HX.out y.2) _) ((HO.out.ext y).alloc _) hg1 (by have := HX.out.size; have := y.2.size; simp; omega); have HO1 := Lib.hid ho1; clear ho1 hg1)
            | (go_at_call 47; refine (calls_ext0 (W := w2) (endOf_calls p (some ad) c k w2 (HP.out.ext ⟨w2, hb2⟩) hn hlt)).mono ?_; rintro e w3 ⟨rfl, x3, rfl⟩))
          go_roundw
          case rel => exact ⟨endOf p k, l ++ [k], endOf_le p hlt, rfl, Lib.hid (by rw [← hb.out, ← HD.out, tryRest_yes hlt (by rw [← HDK.out]; exact HE.out) (by rw [← HKK.out]; exact HF.out)]; simp), HO1.out.ext x3, below_trans hb2 x3.2⟩
          case measure => have := endOf_gt p k; simp [intOf]; omega
        · have HF := Lib.hid (show within kk 8 10 = false from Bool.eq_false_iff.mpr hf)
          clear hf
          go_wp2
          refine wp_region_ext_lit (by kernel_rfl) (by kernel_rfl) ?_
          repeat (go_big_quiet_step ((go_at_call 38; exact calls_ext (calls_val (within_calls _ _ _ _) (congrArg Value.bool HF.out)))))
          refine wpQuiet_nil ?_
          rintro _ ⟨y, rfl⟩
          go_wp2
          go_ret
          exact retN_of_own (by rw [← hb.out, tryRest_no (by rintro ⟨_, _, h⟩; rw [← HKK.out] at h; exact Bool.false_ne_true (HF.out.symm.trans h)), List.append_nil]; exact HO.out.ext y) (below_trans HX.out y.2)
      · have HE := Lib.hid he
        have he' : (dk == d) = false := by simp [he]
        clear he
        go_wp2
        refine wp_region_ext_lit (by kernel_rfl) (by kernel_rfl) ?_
        repeat (go_big_quiet_step (fail))
        refine wpQuiet_nil ?_
        rintro _ ⟨y, rfl⟩
        go_wp2
        go_ret
        exact retN_of_own (by rw [← hb.out, tryRest_no (by rintro ⟨_, h, _⟩; rw [← HDK.out] at h; exact HE.out h), List.append_nil]; exact HO.out.ext y) (below_trans HX.out y.2)
    · have hf : decide (k < p.length) = false := decide_eq_false hlt
      go_wp2
      refine wp_region_ext_lit (by kernel_rfl) (by kernel_rfl) ?_
      repeat (go_big_quiet_step (fail))
      refine wpQuiet_nil ?_
      rintro _ ⟨y, rfl⟩
      go_wp2
      go_ret
      exact retN_of_own (by rw [← hb.out, tryRest_no (by omega), List.append_nil]; exact HO.out.ext y) (below_trans HX.out y.2)
end Go.Proofs.Ytihjakpedbaokaa.K
namespace Go.Proofs.Ytihjakpedbaokaa.K

/-- impl: tryOk, from place k of the list on, 'ex' handlers so far. -/
def tryOkGo (p : Prg) (l : List Nat) (k ex : Nat) (last : Int) : Bool :=
  if k < l.length then
    if (ln p (l.getD k 0)).kind = 8 ∧ last ≤ 8 then tryOkGo p l (k + 1) (ex + 1) (ln p (l.getD k 0)).kind
    else if ((ln p (l.getD k 0)).kind = 9 ∧ last = 8) ∨ ((ln p (l.getD k 0)).kind = 10 ∧ last < 10) then tryOkGo p l (k + 1) ex (ln p (l.getD k 0)).kind
    else false
  else decide (1 < l.length) && decide (ex ≤ 6)
  termination_by l.length - k
def tryOk (p : Prg) (l : List Nat) : Bool := tryOkGo p l 1 0 7

/-- impl: blockOk, from place n of the block's lines on; 'rec' for the blocks below. -/
def blockGo (rec : Nat → Nat → Bool → Bool) (p : Prg) (l : List Nat) (loop : Bool) (n : Nat) : Bool :=
  if n < l.length then
    let i := l.getD n 0
    let kind := (ln p i).kind
    if kind = 5 ∨ kind = 6 then (if loop = true then blockGo rec p l loop (n + 1) else false)
    else if kind = 8 ∨ kind = 9 ∨ kind = 10 then false
    else if kind = 7 then
      (if tryOk p (tryFrom p i) = true ∧ (∀ k ∈ tryFrom p i, rec (k + 1) (endOf p k) loop = true) then blockGo rec p l loop (n + ((tryFrom p i).length - 1) + 1) else false)
    else if kind = 11 ∨ kind = 12 then (if rec (i + 1) (endOf p i) (loop || kind == 12) = true then blockGo rec p l loop (n + 1) else false)
    else blockGo rec p l loop (n + 1)
  else true
  termination_by l.length - n
def blockOk (p : Prg) : Nat → Nat → Nat → Bool → Bool
  | 0, _, _, _ => false
  | f + 1, i, to, loop => blockGo (blockOk p f) p (siblings p i to) loop 0

theorem siblings_mem (p : Prg) (to : Nat) : ∀ (m i : Nat), to - i = m → ∀ x ∈ siblings p i to, i ≤ x ∧ x < to := by
  intro m
  induction m using Nat.strongRecOn with
  | ind m ih =>
    intro i h x hx
    rw [siblings] at hx
    split at hx
    · rename_i hc
      have := endOf_gt p i
      rcases List.mem_cons.1 hx with rfl | hx
      · exact ⟨Nat.le_refl _, hc⟩
      · have := ih (to - endOf p i) (by omega) _ rfl x hx
        exact ⟨by omega, this.2⟩
    · cases hx
end Go.Proofs.Ytihjakpedbaokaa.K
namespace Go.Proofs.Ytihjakpedbaokaa.K
open Go Go.RowKit

set_option maxHeartbeats 2000000 in
set_option maxRecDepth 100000 in
theorem tryOk_calls (p : Prg) (A : Option Addr) (c : Nat) (l : List Nat) (Al : Option Addr) (cl' : Nat) (w : World) (hp : Rd encL 4 w A p) (hn : p.length ≤ 4398046511104) (hl : Rd encN 1 w Al l) (hl1 : 1 ≤ l.length) (hlc : l.length ≤ cl') (hll : l.length ≤ 4398046511105) (hm : ∀ x ∈ l, x < p.length) :
    Calls Try.prog 65 #[.slice A p.length c, .slice Al l.length cl'] w fun e w' => e = .returned (.bool (tryOk p l)) ∧ Below w.heap.size w w' := by
  have HP := Lib.hid hp
  have HL := Lib.hid hl
  have HM := Lib.hid hm
  clear hp hl hm
  by_cases hc : cl' = 1
  · have h1 : l.length = 1 := by omega
    have HT : Hid (tryOk p l = false) := Lib.hid (by unfold tryOk; rw [tryOkGo, if_neg (by omega)]; simp [h1])
    subst hc
    rw [h1]
    clear h1 hl1 hlc hll
    go_enter Try.func65, Try.ntmps65
    go_wp2
    refine wp_loop_rounds 1 ?_
    rw [rounds_succ]
    go_wp2
    go_ret
    exact ⟨ret_bool (by rw [HT.out]), Below.refl _ _⟩
  · obtain ⟨al, rfl, hal, -⟩ := HL.out.nat (show 0 < l.length by omega)
    have HCC := Lib.hid hc
    have hcc : 1 < cl' := by omega
    clear hc
    go_enter Try.func65, Try.ntmps65
    go_wp2
    go_loopw [5, 6, 8, 9, 13] (fun ev lv _ _ kv w' => ∃ (k ex : Nat) (last : Int), k ≤ l.length - 1 ∧ ex ≤ k ∧ kv = .int .i64 k ∧ ev = .int .i64 ex ∧ lv = .int .i64 last ∧ Hid (tryOkGo p l (k + 1) ex last = tryOk p l) ∧ ∃ n, w' = w.drewN n) (fun _ _ _ _ kv _ => (l.length - 1) - (intOf kv).toNat)
    case atStart => exact ⟨0, 0, 7, by omega, by omega, rfl, rfl, rfl, rfl, 0, rfl⟩
    case round =>
      obtain ⟨k, ex, last, hk, hex, rfl, rfl, rfl, hb, n, rfl⟩ := hrel
      by_cases hlt : k < l.length - 1
      · obtain ⟨_, e, -, ga⟩ := HL.out.nat (show k + 1 < l.length by omega)
        cases e
        have g1 : w.cell? ⟨al.block, al.off + 1 + k, none⟩ = some (.int .i64 (l.getD (k + 1) 0)) := by
          rw [show (⟨al.block, al.off + 1 + k, none⟩ : Addr) = al.add (k + 1) from by simp [Addr.add]; omega]; exact ga
        have m1 := HM.out (l.getD (k + 1) 0) (by simp [List.getElem?_eq_getElem (show k + 1 < l.length by omega)])
        have HB := hb.out
        rw [tryOkGo, if_pos (by omega)] at HB
        clear ga hb
        obtain ⟨a, ha⟩ : ∃ a, a = l.getD (k + 1) 0 := ⟨_, rfl⟩
        rw [← ha] at g1 m1 HB
        obtain ⟨ad, rfl, hab, -, ka, -, -⟩ := HP.out.line m1
        obtain ⟨u, hu⟩ : ∃ u, u = (ln p a).kind := ⟨_, rfl⟩
        rw [← hu] at ka HB
        replace HB := Lib.hid HB
        clear ha hu
        go_wp2
        all_goals first
          | (go_ret; exact ⟨ret_bool (by have h := HB.out; clear HB HP HL HM HCC g1 ka; grind), below_drewN (Below.refl _ _) _⟩)
          | (go_roundw
             case rel => first | exact ⟨k + 1, ex + 1, _, by omega, by omega, by go_num, by go_num, rfl, Lib.hid (by have h := HB.out; clear HB HP HL HM HCC g1 ka; grind), _, rfl⟩ | exact ⟨k + 1, ex, _, by omega, by omega, by go_num, by go_num, rfl, Lib.hid (by have h := HB.out; clear HB HP HL HM HCC g1 ka; grind), _, rfl⟩
             case measure => simp [intOf]; omega)
      · have HB := hb.out
        rw [tryOkGo, if_neg (by omega)] at HB
        replace HB := Lib.hid HB
        clear hb
        go_wp2
        all_goals (go_ret; exact ⟨ret_bool (by have h := HB.out; clear HB HP HL HM HCC; grind), below_drewN (Below.refl _ _) _⟩)
end Go.Proofs.Ytihjakpedbaokaa.K
namespace Go.Proofs.Ytihjakpedbaokaa.K
open Go Go.RowKit

set_option maxHeartbeats 4000000 in
set_option maxRecDepth 100000 in
theorem blockOk_calls (p : Prg) (A : Option Addr) (c : Nat) (hn : p.length ≤ 4398046511104) : ∀ (f : Nat) (i to : Nat) (loop : Bool) (w : World), Rd encL 4 w A p → p.length - i < f → i ≤ p.length → to ≤ p.length →
    Calls Try.prog 40 #[.slice A p.length c, .int .i64 i, .int .i64 to, .bool loop] w fun e w' => e = .returned (.bool (blockOk p f i to loop)) ∧ Below w.heap.size w w' := by
  intro f
  induction f with
  | zero => intro i to loop w _ h; omega
  | succ f ih =>
    intro i to loop w hp hf hi hto
    have IH := Lib.hid ih
    have HP := Lib.hid hp
    clear ih hp
    have hsl := siblings_len p to _ i rfl
    have HSM : Hid (∀ x ∈ siblings p i to, i ≤ x ∧ x < to) := Lib.hid (siblings_mem p to _ i rfl)
    obtain ⟨l, hl⟩ : ∃ l, l = siblings p i to := ⟨_, rfl⟩
    have HBK : Hid (blockOk p (f + 1) i to loop = blockGo (blockOk p f) p l loop 0) := Lib.hid (by rw [hl]; rfl)
    have HL := Lib.hid hl
    rw [← hl] at hsl HSM
    clear hl
    go_enter Try.func40, Try.ntmps40
    go_wp2_with (go_at_call 64; refine (siblings_calls p A c i to _ HP.out hn hto hi).mono ?_; rw [← HL.out]; rintro e w1 ⟨A1, c1, rfl, hr1, hf1, _, hb1⟩)
    have HR1 := Lib.hid hr1
    have HR : Hid (∀ y : Ext w1, Rd encL 4 y.1 A p) := Lib.hid fun y => (HP.out.ext ⟨w1, hb1⟩).ext y
    have HY : Hid (∀ y : Ext w1, Below w.heap.size w y.1) := Lib.hid fun y => below_trans hb1 y.2
    clear hr1 hf1 hb1
    go_loopw [10] (fun nv w' => ∃ (n : Nat) (y : Ext w1), w' = y.1 ∧ n ≤ 9000000000000 ∧ nv = .int .i64 n ∧ Hid (blockGo (blockOk p f) p l loop n = blockGo (blockOk p f) p l loop 0)) (fun nv _ => l.length - (intOf nv).toNat)
    case atStart => exact ⟨0, ⟨_, Below.refl _ _⟩, rfl, by omega, rfl, rfl⟩
    case round =>
      obtain ⟨n, y, rfl, hn9, rfl, hb⟩ := hrel
      by_cases hlt : n < l.length
      · obtain ⟨al, rfl, hal, ga⟩ := HR1.out.nat hlt
        obtain ⟨hx1, hx2⟩ := HSM.out (l.getD n 0) (by simp [List.getElem?_eq_getElem hlt])
        obtain ⟨x, hx⟩ : ∃ x, x = l.getD n 0 := ⟨_, rfl⟩
        have HB := hb.out
        rw [blockGo, if_pos hlt] at HB
        simp only [] at HB
        rw [← hx] at ga hx1 hx2 HB
        have gx : ∀ z : Ext w1, z.1.cell? (al.add n) = some (.int .i64 x) := fun z => z.cell ga
        obtain ⟨ad, rfl, -, -, gk, -, -⟩ := (HR.out ⟨w1, Below.refl _ _⟩).line (show x < p.length by omega)
        obtain ⟨kd, hkd⟩ : ∃ kd, kd = (ln p x).kind := ⟨_, rfl⟩
        rw [← hkd] at gk HB
        have gkd : ∀ z : Ext w1, z.1.cell? ⟨(ad.add (x * 4)).block, (ad.add (x * 4)).off + 1, none⟩ = some (.int .i64 kd) := fun z => z.cell gk
        clear hb ga gk hx
        by_cases h7 : kd = 7
        · subst h7
          rw [if_neg (by omega), if_neg (by omega), if_pos rfl] at HB
          replace HB := Lib.hid HB
          have HM := Lib.hid (tryFrom_mem (show x < p.length by omega))
          have hal2 := tryFrom_len p x
          have hal1 : 1 ≤ (tryFrom p x).length := by unfold tryFrom; simp
          obtain ⟨all, hall⟩ : ∃ all, all = tryFrom p x := ⟨_, rfl⟩
          have HALL := Lib.hid hall
          rw [← hall] at HB HM hal2 hal1
          clear hall hkd
          go_wp2_with (go_at_call 53; refine (tryFrom_calls p (some ad) c x _ (HR.out _) hn (by omega)).mono ?_; rw [← HALL.out]; rintro e w2 ⟨A2, c2, rfl, hr2, hf2, hc2, hb2⟩)
          have HR2 := Lib.hid hr2
          have HE : Hid (∀ z : Ext w2, ∃ y' : Ext w1, z.1 = y'.1) := Lib.hid fun z => Ext.step (x := y) (below_trans hb2 z.2)
          have HRL : Hid (∀ z : Ext w2, Rd encL 4 z.1 (some ad) p) := Lib.hid fun z => by obtain ⟨y', e⟩ := HE.out z; rw [e]; exact HR.out y'
          have HY2 : Hid (∀ z : Ext w2, Below w.heap.size w z.1) := Lib.hid fun z => by obtain ⟨y', e⟩ := HE.out z; rw [e]; exact HY.out y'
          clear hr2 hf2 hb2
          by_cases hto1 : tryOk p all = true
          · have HTO := Lib.hid hto1
            clear hto1
            go_wp2_with (go_at_call 65; refine (calls_ext0 (W := w2) (tryOk_calls p (some ad) c all A2 c2 _ (HRL.out ⟨w2, Below.refl _ _⟩) hn HR2.out hal1 hc2 (by omega) (fun q hq => (HM.out q hq).2))).mono ?_; rw [HTO.out]; rintro e w3 ⟨rfl, z, rfl⟩)
            go_loopw [56] (fun mv w' => ∃ (m : Nat) (z : Ext w2), w' = z.1 ∧ m ≤ all.length ∧ mv = .int .i64 m ∧ Hid (∀ j, j < m → blockOk p f (all.getD j 0 + 1) (endOf p (all.getD j 0)) loop = true)) (fun mv _ => all.length - (intOf mv).toNat)
            case atStart => exact ⟨0, z, rfl, by omega, rfl, Lib.hid (fun j h => absurd h (by omega))⟩
            case round =>
              obtain ⟨m, z, rfl, hm, rfl, hbm⟩ := hrel
              by_cases hltm : m < all.length
              · obtain ⟨am, e, -, gm⟩ := HR2.out.nat hltm
                subst e
                obtain ⟨q, hq⟩ : ∃ q, q = all.getD m 0 := ⟨_, rfl⟩
                have hqm := HM.out q (by rw [hq]; simp [List.getElem?_eq_getElem hltm])
                rw [← hq] at gm
                have gm' : ∀ z : Ext w2, z.1.cell? (am.add m) = some (.int .i64 q) := fun z => z.cell gm
                have HQ := Lib.hid hq
                clear gm hq
                by_cases hbo : blockOk p f (q + 1) (endOf p q) loop = true
                · have HBO := Lib.hid hbo
                  clear hbo
                  go_wp2_with (first
                    | (go_at_call 47; refine (calls_ext (W := w2) (endOf_calls p (some ad) c q _ (HRL.out _) hn (by omega))).mono ?_; rintro e w4 ⟨rfl, z1, rfl⟩)
                    | (go_at_call 40; refine (calls_ext (W := w2) (IH.out (q + 1) (endOf p q) loop _ (HRL.out _) (by omega) (by omega) (endOf_le p (by omega)))).mono ?_; rw [HBO.out]; rintro e w4 ⟨rfl, z2, rfl⟩))
                  go_roundw
                  case rel => exact ⟨m + 1, _, rfl, hltm, by go_num, Lib.hid (fun j hj => by
                    rcases Nat.lt_or_eq_of_le (Nat.lt_succ_iff.1 hj) with hj | rfl
                    · exact hbm.out j hj
                    · rw [← HQ.out]; exact HBO.out)⟩
                  case measure => simp [intOf]; omega
                · have HBO := Lib.hid (Bool.eq_false_iff.mpr hbo)
                  clear hbo
                  go_wp2_with (first
                    | (go_at_call 47; refine (calls_ext (W := w2) (endOf_calls p (some ad) c q _ (HRL.out _) hn (by omega))).mono ?_; rintro e w4 ⟨rfl, z1, rfl⟩)
                    | (go_at_call 40; refine (calls_ext (W := w2) (IH.out (q + 1) (endOf p q) loop _ (HRL.out _) (by omega) (by omega) (endOf_le p (by omega)))).mono ?_; rw [HBO.out]; rintro e w4 ⟨rfl, z2, rfl⟩))
                  go_ret
                  exact ⟨ret_bool (by
                    rw [HBK.out, ← HB.out, if_neg]
                    rintro ⟨_, h⟩
                    have := h q (by rw [HQ.out]; simp [List.getElem?_eq_getElem hltm])
                    rw [HBO.out] at this; cases this), HY2.out _⟩
              · have HALLOK : Hid (tryOk p all = true ∧ ∀ k ∈ all, blockOk p f (k + 1) (endOf p k) loop = true) := Lib.hid ⟨HTO.out, fun k hk => by
                  obtain ⟨j, hj, rfl⟩ := List.getElem_of_mem hk
                  have := hbm.out j (by omega)
                  simpa [List.getElem?_eq_getElem hj] using this⟩
                have hsub : ((all.length : Nat) : Int) - 1 = ((all.length - 1 : Nat) : Int) := by omega
                go_wp2
                go_roundw
                case rel =>
                  obtain ⟨y', e'⟩ := HE.out z
                  exact ⟨n + (all.length - 1) + 1, y', e', by omega, by go_num, Lib.hid (by rw [← HB.out, if_pos HALLOK.out])⟩
                case measure => simp [intOf]; omega
          · have HTO := Lib.hid (Bool.eq_false_iff.mpr hto1)
            clear hto1
            go_wp2_with (go_at_call 65; refine (calls_ext0 (W := w2) (tryOk_calls p (some ad) c all A2 c2 _ (HRL.out ⟨w2, Below.refl _ _⟩) hn HR2.out hal1 hc2 (by omega) (fun q hq => (HM.out q hq).2))).mono ?_; rw [HTO.out]; rintro e w3 ⟨rfl, z, rfl⟩)
            go_ret
            exact ⟨ret_bool (by rw [HBK.out, ← HB.out, if_neg (by rw [HTO.out]; simp)]), HY2.out _⟩
        · have h7' : (kd == 7) = false := by simp [h7]
          replace HB := Lib.hid HB
          have H7 := Lib.hid h7
          clear h7 hkd
          cases loop
          all_goals
            go_wp2_with (first
              | (go_at_call 47; refine (calls_ext (W := w1) (endOf_calls p (some ad) c x _ (HR.out _) hn (by omega))).mono ?_; rintro e w2 ⟨rfl, z, rfl⟩)
              | (go_at_call 40; refine (calls_ext (W := w1) (IH.out (x + 1) (endOf p x) _ _ (HR.out _) (by omega) (by omega) (endOf_le p (by omega)))).mono ?_; rintro e w2 ⟨rfl, z2, rfl⟩))
            all_goals first
              | (go_ret; exact ⟨ret_bool (by rw [HBK.out]; have h := HB.out; have h7 := H7.out; clear HB HP HR HR1 HSM IH gx gkd HY; grind), HY.out _⟩)
              | (go_roundw
                 case rel => exact ⟨n + 1, _, rfl, by omega, by go_num, Lib.hid (by have h := HB.out; have h7 := H7.out; clear HB HP HR HR1 HSM IH gx gkd HY; grind)⟩
                 case measure => simp [intOf]; omega)
      · have HB := hb.out
        rw [blockGo, if_neg hlt] at HB
        replace HB := Lib.hid HB
        clear hb
        go_wp2
        go_ret
        exact ⟨ret_bool (by rw [HBK.out, ← HB.out]), HY.out _⟩
end Go.Proofs.Ytihjakpedbaokaa.K
namespace Go.Proofs.Ytihjakpedbaokaa.K

/-- impl: a line behind another one. -/
def lineOk (n : Nat) (last x : Line) : Bool :=
  argued n x && within x.depth 0 5 && !(opens last.kind && x.depth != last.depth + 1) && !(!opens last.kind && decide (last.depth < x.depth))
def prevLine (p : Prg) (k : Nat) : Line := if k = 0 then ⟨-1, 7, 0, 0⟩ else ln p (k - 1)
def linesOk (n : Nat) (p : Prg) : Bool := allFrom p.length (fun k => lineOk n (prevLine p k) (ln p k)) 0
def validProg (t : Tree) (p : Prg) : Bool :=
  validTree t && decide (p.length ≤ 24) && linesOk t.length p && (p.length == 0 || !opens (prevLine p p.length).kind) && blockOk p (p.length + 1) 0 p.length false
end Go.Proofs.Ytihjakpedbaokaa.K
namespace Go.Proofs.Ytihjakpedbaokaa.K
open Go Go.RowKit

/-- Block g is just the cells cs of element type t, none frozen. -/
def Blk (w : World) (g : Nat) (t : TypeId) (cs : Array Value) : Prop := w.heap[g]? = some (.cells cs t (0, 0))
section
variable {w w' : World} {g : Nat} {t : TypeId} {cs : Array Value}
theorem cell_alloc' {a : Addr} {v : Value} (o : Obj) (h : w.cell? a = some v) : (w.alloc o).cell? a = some v := (⟨w.alloc o, below_alloc (Below.refl _ _) o⟩ : Ext w).cell h
theorem Blk.lt (h : Blk w g t cs) : g < w.heap.size := by
  rcases Nat.lt_or_ge g w.heap.size with hlt | hge
  · exact hlt
  · unfold Blk at h; rw [Array.getElem?_eq_none hge] at h; cases h
theorem Blk.cell (h : Blk w g t cs) (i : Nat) : w.cell? ⟨g, i, none⟩ = cs[i]? := cell_of_row w g i cs t (0, 0) h
theorem Blk.frozen (h : Blk w g t cs) (i : Nat) : w.frozen? ⟨g, i, none⟩ = false := by
  unfold Blk at h
  simp [World.frozen?, h]
theorem Blk.new (w : World) (t : TypeId) (cs : Array Value) : Blk (w.alloc (.cells cs t)) w.heap.size t cs := heap_alloc_new w _
theorem Blk.ext (h : Blk w g t cs) (x : Ext w) : Blk x.1 g t cs := (x.2.block g h.lt).trans h
theorem Blk.alloc (h : Blk w g t cs) (o : Obj) : Blk (w.alloc o) g t cs := (Below.heap_alloc w o g h.lt).trans h
theorem Blk.set_ (h : Blk w g t cs) (i : Nat) (u : Value) : Blk (w.setCell ⟨g, i, none⟩ u) g t (cs.setIfInBounds i u) := by
  unfold Blk at h ⊢
  simp [World.setCell, Array.getElem?_modify, h]
theorem Blk.set4 {x0 x1 x2 x3 : Value} (h : Blk w g t #[x0, x1, x2, x3]) (u0 u1 u2 u3 : Value) :
    Blk ((((w.setCell ⟨g, 0, none⟩ u0).setCell ⟨g, 1, none⟩ u1).setCell ⟨g, 2, none⟩ u2).setCell ⟨g, 3, none⟩ u3) g t #[u0, u1, u2, u3] := by
  have := (((h.set_ 0 u0).set_ 1 u1).set_ 2 u2).set_ 3 u3
  simpa using this
theorem below_set4 {a : World} {B : Nat} (h : Below B a w) (u0 u1 u2 u3 : Value) :
    Below B a ((((w.setCell ⟨B, 0, none⟩ u0).setCell ⟨B, 1, none⟩ u1).setCell ⟨B, 2, none⟩ u2).setCell ⟨B, 3, none⟩ u3) :=
  (((h.setCell (p := ⟨B, 0, none⟩) (Nat.le_refl _) u0).setCell (p := ⟨B, 1, none⟩) (Nat.le_refl _) u1).setCell (p := ⟨B, 2, none⟩) (Nat.le_refl _) u2).setCell (p := ⟨B, 3, none⟩) (Nat.le_refl _) u3
theorem Blk.far (h : Blk w g t cs) {p : Addr} (hp : g ≠ p.block) (u : Value) : Blk (w.setCell p u) g t cs := (Below.heap_setCell w p u g hp).trans h
end

theorem blockOk_top (p : Prg) (A : Option Addr) (c : Nat) (w : World) (hn : p.length ≤ 4398046511104) (hp : Rd encL 4 w A p) :
    Calls Try.prog 40 #[.slice A p.length c, .int .i64 0, .int .i64 p.length, .bool false] w fun e w' => e = .returned (.bool (blockOk p (p.length + 1) 0 p.length false)) ∧ Below w.heap.size w w' :=
  blockOk_calls p A c hn (p.length + 1) 0 p.length false w hp (by omega) (by omega) (Nat.le_refl _)
set_option maxHeartbeats 4000000 in
set_option maxRecDepth 100000 in
theorem validProg_calls (t : Tree) (At : Option Addr) (nt : Nat) (p : Prg) (A : Option Addr) (c : Nat) (w : World) (ht : Rd encC 2 w At t) (htn : t.length ≤ 140737488351232) (hs : Sized t) (hp : Rd encL 4 w A p) (hn : p.length ≤ 4398046511104) :
    Calls Try.prog 16 #[.agg #[.slice At t.length nt], .slice A p.length c] w fun e w' => e = .returned (.bool (validProg t p)) ∧ Below w.heap.size w w' := by
  have HT := Lib.hid ht
  have HS := Lib.hid hs
  have HP := Lib.hid hp
  clear ht hs hp
  have HY : Hid (∀ y : Ext (w.alloc (.cells #[.slice At t.length nt] 24)), Below w.heap.size w y.1) := Lib.hid fun y => below_trans (below_alloc (Below.refl _ _) _) y.2
  by_cases hv : validTree t = true
  · have HV := Lib.hid hv
    clear hv
    by_cases h24 : p.length ≤ 24
    · go_enter Try.func16, Try.ntmps16
      go_wp2_with (go_at_call 36; refine (calls_ext0 (W := (w.alloc (.cells #[.slice At t.length nt] 24))) (validTree_calls t At nt _ (HT.out.alloc _) htn HS.out)).mono ?_; rw [HV.out]; rintro e w3 ⟨rfl, y, rfl⟩)
      have HR : Hid (∀ z : Ext y.1, Rd encL 4 z.1 A p) := Lib.hid fun z => ((HP.out.alloc _).ext y).ext z
      have ct : ∀ z : Ext y.1, z.1.cell? ⟨w.heap.size, 0, none⟩ = some (.slice At t.length nt) := fun z => z.cell (y.cell (by simp))
      have htl : w.heap.size < y.1.heap.size := y.lt (by simp)
      go_loopw [19] (fun v w' => ∃ (k : Nat) (ld lk la lb : Int), k ≤ p.length ∧ v = .int .i64 k ∧ -1 ≤ ld ∧ ld ≤ 5 ∧ Hid (prevLine p k = ⟨ld, lk, la, lb⟩) ∧ Hid (∀ i, i < k → lineOk t.length (prevLine p i) (ln p i) = true) ∧ Below y.1.heap.size y.1 w' ∧ Hid (Blk w' y.1.heap.size 37 #[.int .i64 ld, .int .i64 lk, .int .i64 la, .int .i64 lb])) (fun v _ => p.length - (intOf v).toNat)
      case atStart => exact ⟨0, -1, 7, 0, 0, by omega, rfl, by omega, by omega, Lib.hid rfl, Lib.hid (fun i h => absurd h (by omega)), below_alloc (Below.refl _ _) _, Lib.hid (Blk.new _ _ _)⟩
      case round =>
        obtain ⟨k, ld, lk, la, lb, hk, rfl, hld1, hld5, hpl, hok, hx, hbk⟩ := hrel
        by_cases hlt : k < p.length
        · have hRk := HR.out ⟨wr, hx⟩
          obtain ⟨ad, rfl, hab, g0, g1, g2, g3⟩ := hRk.line hlt
          simp only [] at hab g0 g1 g2 g3
          obtain ⟨x, hx'⟩ : ∃ x, x = ln p k := ⟨_, rfl⟩
          rw [← hx'] at g0 g1 g2 g3
          obtain ⟨d, kd, a, b⟩ := x
          simp only [] at g0 g1 g2 g3
          have hB5 : y.1.heap.size < wr.heap.size := hbk.out.lt
          have ctr : wr.cell? ⟨w.heap.size, 0, none⟩ = some (.slice At t.length nt) := ct ⟨wr, hx⟩
          have htl2 : w.heap.size < wr.heap.size := by omega
          have HX := Lib.hid hx
          have HXE := Lib.hid hx'
          have ct3 : ∀ z : Ext (wr.alloc (.cells #[.int .i64 d, .int .i64 kd, .int .i64 a, .int .i64 b] 37)), z.1.cell? ⟨w.heap.size, 0, none⟩ = some (.slice At t.length nt) := fun z => z.cell (cell_alloc' _ (ct ⟨wr, hx⟩))
          have l0 : ∀ z : Ext (wr.alloc (.cells #[.int .i64 d, .int .i64 kd, .int .i64 a, .int .i64 b] 37)), z.1.cell? ⟨y.1.heap.size, 0, none⟩ = some (.int .i64 ld) := fun z => z.cell (cell_alloc' _ (hbk.out.cell 0))
          have l1 : ∀ z : Ext (wr.alloc (.cells #[.int .i64 d, .int .i64 kd, .int .i64 a, .int .i64 b] 37)), z.1.cell? ⟨y.1.heap.size, 1, none⟩ = some (.int .i64 lk) := fun z => z.cell (cell_alloc' _ (hbk.out.cell 1))
          have l2 : ∀ z : Ext (wr.alloc (.cells #[.int .i64 d, .int .i64 kd, .int .i64 a, .int .i64 b] 37)), z.1.cell? ⟨y.1.heap.size, 2, none⟩ = some (.int .i64 la) := fun z => z.cell (cell_alloc' _ (hbk.out.cell 2))
          have l3 : ∀ z : Ext (wr.alloc (.cells #[.int .i64 d, .int .i64 kd, .int .i64 a, .int .i64 b] 37)), z.1.cell? ⟨y.1.heap.size, 3, none⟩ = some (.int .i64 lb) := fun z => z.cell (cell_alloc' _ (hbk.out.cell 3))
          have lf : ∀ (z : Ext (wr.alloc (.cells #[.int .i64 d, .int .i64 kd, .int .i64 a, .int .i64 b] 37))) (j : Nat), z.1.frozen? ⟨y.1.heap.size, j, none⟩ = false := fun z j => ((hbk.out.alloc _).ext z).frozen j
          have x0 : ∀ z : Ext (wr.alloc (.cells #[.int .i64 d, .int .i64 kd, .int .i64 a, .int .i64 b] 37)), z.1.cell? ⟨wr.heap.size, 0, none⟩ = some (.int .i64 d) := fun z => z.cell (by simp)
          have x1 : ∀ z : Ext (wr.alloc (.cells #[.int .i64 d, .int .i64 kd, .int .i64 a, .int .i64 b] 37)), z.1.cell? ⟨wr.heap.size, 1, none⟩ = some (.int .i64 kd) := fun z => z.cell (by simp)
          have x2 : ∀ z : Ext (wr.alloc (.cells #[.int .i64 d, .int .i64 kd, .int .i64 a, .int .i64 b] 37)), z.1.cell? ⟨wr.heap.size, 2, none⟩ = some (.int .i64 a) := fun z => z.cell (by simp)
          have x3 : ∀ z : Ext (wr.alloc (.cells #[.int .i64 d, .int .i64 kd, .int .i64 a, .int .i64 b] 37)), z.1.cell? ⟨wr.heap.size, 3, none⟩ = some (.int .i64 b) := fun z => z.cell (by simp)
          have HBK : Hid (∀ z : Ext (wr.alloc (.cells #[.int .i64 d, .int .i64 kd, .int .i64 a, .int .i64 b] 37)), Blk z.1 y.1.heap.size 37 #[.int .i64 ld, .int .i64 lk, .int .i64 la, .int .i64 lb]) := Lib.hid fun z => (hbk.out.alloc _).ext z
          have HX3 : Hid (∀ z : Ext (wr.alloc (.cells #[.int .i64 d, .int .i64 kd, .int .i64 a, .int .i64 b] 37)), Below y.1.heap.size y.1 z.1) := Lib.hid fun z => (below_trans (below_alloc hx _) z.2)
          have HLO : Hid (lineOk t.length (prevLine p k) (ln p k) = (argued t.length ⟨d, kd, a, b⟩ && within d 0 5 && !(opens lk && d != ld + 1) && !(!opens lk && decide (ld < d)))) := Lib.hid (by rw [hpl.out, ← hx']; rfl)
          have HBAD : Hid (lineOk t.length (prevLine p k) (ln p k) = false → false = validProg t p) := Lib.hid fun h => by
            have : linesOk t.length p = false := Bool.eq_false_iff.mpr fun h2 => by
              have := (allFrom_iff _ 0 rfl).1 h2 k (by omega) hlt
              rw [h] at this; cases this
            unfold validProg; rw [this]; simp
          have HY3 : Hid (∀ z : Ext (wr.alloc (.cells #[.int .i64 d, .int .i64 kd, .int .i64 a, .int .i64 b] 37)), Below w.heap.size w z.1) := Lib.hid fun z => HY.out ⟨z.1, below_trans y.2 (HX3.out z)⟩
          have HWB : Hid (within d 0 5 = true → 0 ≤ d ∧ d ≤ 5) := Lib.hid fun h => by unfold within at h; simpa using h
          have HPN : Hid (prevLine p (k + 1) = ⟨d, kd, a, b⟩) := Lib.hid (by unfold prevLine; rw [if_neg (by omega), Nat.add_sub_cancel]; exact hx'.symm)
          clear hx hx' hbk hRk
          go_wp2_with (first
            | (go_at_call 37; refine (calls_ext0 (W := (wr.alloc (.cells #[.int .i64 d, .int .i64 kd, .int .i64 a, .int .i64 b] 37))) (argued_calls ⟨d, kd, a, b⟩ t.length At nt _ htn)).mono ?_; rintro e w3 ⟨rfl, z, rfl⟩)
            | (go_at_call 38; refine (calls_ext (W := (wr.alloc (.cells #[.int .i64 d, .int .i64 kd, .int .i64 a, .int .i64 b] 37))) (within_calls _ _ _ _)).mono ?_; rintro e w3 ⟨rfl, z, rfl⟩)
            | (go_at_call 39; refine (calls_ext (W := (wr.alloc (.cells #[.int .i64 d, .int .i64 kd, .int .i64 a, .int .i64 b] 37))) (opens_calls ⟨ld, lk, la, lb⟩ _)).mono ?_; rintro e w3 ⟨rfl, z, rfl⟩))
          all_goals first
            | (go_ret; exact ⟨ret_bool (HBAD.out (by rw [HLO.out]; first | (simp [*]; done) | grind)), HY3.out _⟩)
            | (go_roundw
               case rel =>
                 have hw05 := HWB.out ‹_›
                 first
                 | exact ⟨k + 1, d, kd, a, b, hlt, by go_num, by omega, by omega, HPN, Lib.hid (fun i hi => by
                    rcases Nat.lt_or_eq_of_le (Nat.lt_succ_iff.1 hi) with hi | rfl
                    · exact hok.out i hi
                    · rw [HLO.out]; have e1 := ‹argued t.length ⟨d, kd, a, b⟩ = true›; have e2 := ‹within d 0 5 = true›; rw [e1, e2]; simp [*]), below_set4 (HX3.out _) _ _ _ _, Lib.hid ((HBK.out _).set4 _ _ _ _)⟩
                 | exact ⟨k + 1, ld + 1, kd, a, b, hlt, by go_num, by omega, by omega, Lib.hid (HPN.out.trans (by rw [‹d = ld + 1›])), Lib.hid (fun i hi => by
                    rcases Nat.lt_or_eq_of_le (Nat.lt_succ_iff.1 hi) with hi | rfl
                    · exact hok.out i hi
                    · rw [HLO.out]; have e1 := ‹argued t.length ⟨d, kd, a, b⟩ = true›; have e2 := ‹within d 0 5 = true›; rw [e1, e2]; simp [*]), below_set4 (HX3.out _) _ _ _ _, Lib.hid ((HBK.out _).set4 _ _ _ _)⟩
               case measure => simp [intOf]; omega)
        · obtain rfl : k = p.length := by omega
          have HLI : Hid (linesOk t.length p = true) := Lib.hid ((allFrom_iff _ 0 rfl).2 fun i _ hi => hok.out i hi)
          have hRk : ∀ z : Ext wr, Rd encL 4 z.1 A p := fun z => (HR.out ⟨wr, hx⟩).ext z
          have HRK := Lib.hid hRk
          have l0 : ∀ z : Ext wr, z.1.cell? ⟨y.1.heap.size, 0, none⟩ = some (.int .i64 ld) := fun z => z.cell (hbk.out.cell 0)
          have l1 : ∀ z : Ext wr, z.1.cell? ⟨y.1.heap.size, 1, none⟩ = some (.int .i64 lk) := fun z => z.cell (hbk.out.cell 1)
          have l2 : ∀ z : Ext wr, z.1.cell? ⟨y.1.heap.size, 2, none⟩ = some (.int .i64 la) := fun z => z.cell (hbk.out.cell 2)
          have l3 : ∀ z : Ext wr, z.1.cell? ⟨y.1.heap.size, 3, none⟩ = some (.int .i64 lb) := fun z => z.cell (hbk.out.cell 3)
          have m0 : wr.cell? ⟨y.1.heap.size, 0, none⟩ = some (.int .i64 ld) := hbk.out.cell 0
          have m1 : wr.cell? ⟨y.1.heap.size, 1, none⟩ = some (.int .i64 lk) := hbk.out.cell 1
          have m2 : wr.cell? ⟨y.1.heap.size, 2, none⟩ = some (.int .i64 la) := hbk.out.cell 2
          have m3 : wr.cell? ⟨y.1.heap.size, 3, none⟩ = some (.int .i64 lb) := hbk.out.cell 3
          have HY3 : Hid (∀ z : Ext wr, Below w.heap.size w z.1) := Lib.hid fun z => HY.out ⟨z.1, below_trans y.2 (below_trans hx z.2)⟩
          have HVP : Hid (validProg t p = ((p.length == 0 || !opens lk) && blockOk p (p.length + 1) 0 p.length false)) := Lib.hid (by
            unfold validProg; rw [HV.out, HLI.out, hpl.out, decide_eq_true h24]; simp)
          clear hx hRk hbk
          by_cases h0 : p.length = 0
          · have H0 := Lib.hid h0
            have h0' : ((p.length : Int) == 0) = true := by simp [h0]
            clear h0
            go_wp2_with (go_at_call 40; (first | (with_reducible refine (calls_ext0 (W := wr) (blockOk_top p A c _ hn (HRK.out ⟨wr, Below.refl _ _⟩))).mono ?_) | (with_reducible refine (calls_ext (W := wr) (blockOk_top p A c _ hn (HRK.out _))).mono ?_)); rintro e w3 ⟨rfl, z, rfl⟩)
            go_ret
            exact ⟨ret_bool (by rw [HVP.out]; simp [H0.out]), HY3.out _⟩
          · have H0 := Lib.hid h0
            have h0' : ((p.length : Int) == 0) = false := by simp [h0]
            clear h0
            go_wp2_with (first
              | (go_at_call 39; refine (calls_ext0 (W := wr) (opens_calls ⟨ld, lk, la, lb⟩ _)).mono ?_; rintro e w3 ⟨rfl, z, rfl⟩)
              | (go_at_call 40; (first | (with_reducible refine (calls_ext0 (W := wr) (blockOk_top p A c _ hn (HRK.out ⟨wr, Below.refl _ _⟩))).mono ?_) | (with_reducible refine (calls_ext (W := wr) (blockOk_top p A c _ hn (HRK.out _))).mono ?_)); rintro e w3 ⟨rfl, z, rfl⟩))
            all_goals (go_ret; exact ⟨ret_bool (by rw [HVP.out]; simp [*, H0.out]), HY3.out _⟩)
    · have h24' : decide (24 < p.length) = true := decide_eq_true (by omega)
      go_enter Try.func16, Try.ntmps16
      go_wp2_with (go_at_call 36; refine (calls_ext0 (W := (w.alloc (.cells #[.slice At t.length nt] 24))) (validTree_calls t At nt _ (HT.out.alloc _) htn HS.out)).mono ?_; rw [HV.out]; rintro e w3 ⟨rfl, y, rfl⟩)
      go_ret
      exact ⟨ret_bool (by unfold validProg; rw [decide_eq_false h24]; simp), HY.out _⟩
  · have HV := Lib.hid (Bool.eq_false_iff.mpr hv)
    clear hv
    go_enter Try.func16, Try.ntmps16
    go_wp2_with (go_at_call 36; refine (calls_ext0 (W := (w.alloc (.cells #[.slice At t.length nt] 24))) (validTree_calls t At nt _ (HT.out.alloc _) htn HS.out)).mono ?_; rw [HV.out]; rintro e w3 ⟨rfl, y, rfl⟩)
    go_ret
    exact ⟨ret_bool (by unfold validProg; rw [HV.out]; simp), HY.out _⟩
end Go.Proofs.Ytihjakpedbaokaa.K
