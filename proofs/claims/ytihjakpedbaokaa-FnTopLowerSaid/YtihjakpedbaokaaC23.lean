/- Walks: the laws' own comparisons (laws.equalLines, equalInts, equalHeap, lowDigits). -/
import Derived.Test.YtihjakpedbaokaaC15
import Derived.Test.YtihjakpedbaokaaC18
namespace Go.Proofs.Ytihjakpedbaokaa.K
open Go Go.RowKit

theorem eqFrom {α : Type} [DecidableEq α] {a b : List α} (hl : a.length = b.length) {d : α} (h : ∀ i, i < a.length → a.getD i d = b.getD i d) : a = b := by
  apply List.ext_getElem hl
  intro i h1 h2
  have := h i h1
  simpa [List.getElem?_eq_getElem h1, List.getElem?_eq_getElem h2] using this
set_option maxHeartbeats 1000000 in
theorem equalInts_calls (a b : List Int) (A B : Option Addr) (ca cb : Nat) (w : World) (ha : Rd encI 1 w A a) (hb : Rd encI 1 w B b) (hna : a.length ≤ 4611686018427387904) (hnb : b.length ≤ 4611686018427387904) :
    Calls Try.prog 11 #[.slice A a.length ca, .slice B b.length cb] w fun e w' => e = .returned (.bool (decide (a = b))) ∧ Below w.heap.size w w' := by
  have HA := Lib.hid ha
  have HB := Lib.hid hb
  clear ha hb
  by_cases hl : a.length = b.length
  · have HL := Lib.hid hl
    have hl2 : ((a.length : Int) != (b.length : Int)) = false := by simp [hl]
    clear hl
    go_enter Try.func11, Try.ntmps11
    go_wp2
    go_loopw [5] (fun v w' => ∃ k : Nat, k ≤ a.length ∧ v = .int .i64 k ∧ Hid (∀ i, i < k → a.getD i 0 = b.getD i 0) ∧ ∃ q, w' = w.drewN q) (fun v _ => a.length - (intOf v).toNat)
    case atStart => exact ⟨0, Nat.zero_le _, rfl, Lib.hid (fun i h => by omega), 0, rfl⟩
    case round =>
      obtain ⟨k, hk, rfl, hs, q, rfl⟩ := hrel
      by_cases hlt : k < a.length
      · obtain ⟨aa, rfl, haa, ga⟩ := HA.out.int hlt
        obtain ⟨bb, rfl, hbb, gb⟩ := HB.out.int (show k < b.length by have := HL.out; omega)
        have hkn : k < b.length := by have := HL.out; omega
        obtain ⟨x, hx⟩ : ∃ x, x = a.getD k 0 := ⟨_, rfl⟩
        obtain ⟨y, hy⟩ : ∃ y, y = b.getD k 0 := ⟨_, rfl⟩
        rw [← hx] at ga
        rw [← hy] at gb
        have HX := Lib.hid hx
        have HY := Lib.hid hy
        clear hx hy
        by_cases he : x = y
        · have HE := Lib.hid he
          have he' : (x != y) = false := by simp [he]
          clear he
          go_wp2
          go_quiet (fail)
          go_wp2
          go_roundw
          case rel => exact ⟨k + 1, hlt, by go_num, Lib.hid (fun i hi => by rcases Nat.lt_or_eq_of_le (Nat.lt_succ_iff.1 hi) with h | rfl; exact hs.out i h; rw [← HX.out, ← HY.out, HE.out]), _, rfl⟩
          case measure => simp [intOf]; omega
        · have HE := Lib.hid he
          have he' : (x != y) = true := bne_iff_ne.mpr he
          clear he
          go_wp2
          go_quiet (fail)
          go_wp2
          go_ret
          exact ⟨ret_bool (by symm; rw [decide_eq_false_iff_not]; rintro rfl; exact HE.out (by rw [HX.out, HY.out])), below_drewN (below_drewN (Below.refl _ _) _) _⟩
      · go_wp2
        go_ret
        exact ⟨ret_bool (by symm; rw [decide_eq_true_iff]; exact eqFrom HL.out (d := 0) fun i hi => hs.out i (by omega)), below_drewN (Below.refl _ _) _⟩
  · have HL := Lib.hid hl
    have hl2 : ((a.length : Int) != (b.length : Int)) = true := bne_iff_ne.mpr (by omega)
    clear hl
    go_enter Try.func11, Try.ntmps11
    go_wp2
    go_ret
    exact ⟨ret_bool (by symm; rw [decide_eq_false_iff_not]; rintro rfl; exact HL.out rfl), Below.refl _ _⟩
set_option maxHeartbeats 1000000 in
theorem equalLines_calls (a b : Prg) (A B : Option Addr) (ca cb : Nat) (w : World) (ha : Rd encL 4 w A a) (hb : Rd encL 4 w B b) (hna : a.length ≤ 4611686018427387904) (hnb : b.length ≤ 4611686018427387904) :
    Calls Try.prog 9 #[.slice A a.length ca, .slice B b.length cb] w fun e w' => e = .returned (.bool (decide (a = b))) ∧ Below w.heap.size w w' := by
  have HA := Lib.hid ha
  have HB := Lib.hid hb
  clear ha hb
  by_cases hl : a.length = b.length
  · have HL := Lib.hid hl
    have hl2 : ((a.length : Int) != (b.length : Int)) = false := by simp [hl]
    clear hl
    go_enter Try.func9, Try.ntmps9
    go_wp2
    go_loopw [5] (fun v w' => ∃ k : Nat, k ≤ a.length ∧ v = .int .i64 k ∧ Hid (∀ i, i < k → ln a i = ln b i) ∧ ∃ q, w' = w.drewN q) (fun v _ => a.length - (intOf v).toNat)
    case atStart => exact ⟨0, Nat.zero_le _, rfl, Lib.hid (fun i h => by omega), 0, rfl⟩
    case round =>
      obtain ⟨k, hk, rfl, hs, q, rfl⟩ := hrel
      by_cases hlt : k < a.length
      · obtain ⟨aa, rfl, haa, ga0, ga1, ga2, ga3⟩ := HA.out.line hlt
        obtain ⟨bb, rfl, hbb, gb0, gb1, gb2, gb3⟩ := HB.out.line (show k < b.length by have := HL.out; omega)
        have hkn : k < b.length := by have := HL.out; omega
        obtain ⟨x, hx⟩ : ∃ x, x = ln a k := ⟨_, rfl⟩
        obtain ⟨y, hy⟩ : ∃ y, y = ln b k := ⟨_, rfl⟩
        rw [← hx] at ga0 ga1 ga2 ga3
        rw [← hy] at gb0 gb1 gb2 gb3
        have HX := Lib.hid hx
        have HY := Lib.hid hy
        clear hx hy
        by_cases he : x = y
        · have HE := Lib.hid he
          subst he
          go_wp2
          go_quiet (fail)
          go_wp2
          go_roundw
          case rel => exact ⟨k + 1, hlt, by go_num, Lib.hid (fun i hi => by rcases Nat.lt_or_eq_of_le (Nat.lt_succ_iff.1 hi) with h | rfl; exact hs.out i h; exact HX.out.symm.trans HY.out), _, rfl⟩
          case measure => simp [intOf]; omega
        · have HE := Lib.hid he
          obtain ⟨d1, k1, a1, b1⟩ := x
          obtain ⟨d2, k2, a2, b2⟩ := y
          simp only [] at ga0 ga1 ga2 ga3 gb0 gb1 gb2 gb3
          clear he
          by_cases h1 : d1 = d2
          · subst h1
            by_cases h2 : k1 = k2
            · subst h2
              by_cases h3 : a1 = a2
              · subst h3
                by_cases h4 : b1 = b2
                · subst h4; exact absurd rfl HE.out
                · have h4' : (b1 == b2) = false := beq_eq_false_iff_ne.mpr h4
                  clear h4
                  (go_wp2; go_quiet (fail); go_wp2; go_ret; exact ⟨ret_bool (by symm; rw [decide_eq_false_iff_not]; rintro rfl; exact HE.out (HX.out.trans HY.out.symm)), below_drewN (below_drewN (Below.refl _ _) _) _⟩)
              · have h3' : (a1 == a2) = false := beq_eq_false_iff_ne.mpr h3
                clear h3
                (go_wp2; go_quiet (fail); go_wp2; go_ret; exact ⟨ret_bool (by symm; rw [decide_eq_false_iff_not]; rintro rfl; exact HE.out (HX.out.trans HY.out.symm)), below_drewN (below_drewN (Below.refl _ _) _) _⟩)
            · have h2' : (k1 == k2) = false := beq_eq_false_iff_ne.mpr h2
              clear h2
              (go_wp2; go_quiet (fail); go_wp2; go_ret; exact ⟨ret_bool (by symm; rw [decide_eq_false_iff_not]; rintro rfl; exact HE.out (HX.out.trans HY.out.symm)), below_drewN (below_drewN (Below.refl _ _) _) _⟩)
          · have h1' : (d1 == d2) = false := beq_eq_false_iff_ne.mpr h1
            clear h1
            (go_wp2; go_quiet (fail); go_wp2; go_ret; exact ⟨ret_bool (by symm; rw [decide_eq_false_iff_not]; rintro rfl; exact HE.out (HX.out.trans HY.out.symm)), below_drewN (below_drewN (Below.refl _ _) _) _⟩)
      · go_wp2
        go_ret
        exact ⟨ret_bool (by symm; rw [decide_eq_true_iff]; exact eqFrom HL.out (d := default) fun i hi => hs.out i (by omega)), below_drewN (Below.refl _ _) _⟩
  · have HL := Lib.hid hl
    have hl2 : ((a.length : Int) != (b.length : Int)) = true := bne_iff_ne.mpr (by omega)
    clear hl
    go_enter Try.func9, Try.ntmps9
    go_wp2
    go_ret
    exact ⟨ret_bool (by symm; rw [decide_eq_false_iff_not]; rintro rfl; exact HL.out rfl), Below.refl _ _⟩
instance fltDec : DecidableEq Flt := fun x y =>
  if h : x.cls = y.cls ∧ x.code = y.code ∧ x.ctx = y.ctx then isTrue (by obtain ⟨a, b, c⟩ := x; obtain ⟨a', b', c'⟩ := y; obtain ⟨h1, h2, h3⟩ := h; simp only [] at h1 h2 h3; subst h1 h2 h3; rfl)
  else isFalse (by rintro rfl; exact h ⟨rfl, rfl, rfl⟩)
set_option maxHeartbeats 2000000 in
theorem equalHeap_calls (a b : List Flt) (A B : Option Addr) (ca cb : Nat) (w : World) (ha : Rd encF 5 w A a) (hb : Rd encF 5 w B b) (hna : a.length ≤ 4611686018427387904) (hnb : b.length ≤ 4611686018427387904) :
    Calls Try.prog 13 #[.agg #[.slice A a.length ca], .agg #[.slice B b.length cb]] w fun e w' => e = .returned (.bool (decide (a = b))) ∧ Below w.heap.size w w' := by
  have HA := Lib.hid ((ha.alloc (.cells #[.slice A a.length ca] 32)).alloc (.cells #[.slice B b.length cb] 32))
  have HB := Lib.hid ((hb.alloc (.cells #[.slice A a.length ca] 32)).alloc (.cells #[.slice B b.length cb] 32))
  have HW : Hid (Below w.heap.size w (((w.alloc (.cells #[.slice A a.length ca] 32))).alloc (.cells #[.slice B b.length cb] 32))) := Lib.hid (below_alloc (below_alloc (Below.refl _ _) _) _)
  have c0 : ((((w.alloc (.cells #[.slice A a.length ca] 32))).alloc (.cells #[.slice B b.length cb] 32))).cell? ⟨w.heap.size, 0, none⟩ = some (.slice A a.length ca) := ((Blk.new w 32 #[.slice A a.length ca]).alloc _).cell 0
  have c1 : ((((w.alloc (.cells #[.slice A a.length ca] 32))).alloc (.cells #[.slice B b.length cb] 32))).cell? ⟨w.heap.size + 1, 0, none⟩ = some (.slice B b.length cb) := by
    have h0 := Blk.new (w.alloc (.cells #[.slice A a.length ca] 32)) 32 #[.slice B b.length cb]
    rw [show ((w.alloc (.cells #[.slice A a.length ca] 32))).heap.size = w.heap.size + 1 from by simp] at h0
    exact h0.cell 0
  clear ha hb
  by_cases hl : a.length = b.length
  · have HL := Lib.hid hl
    have hl2 : ((a.length : Int) != (b.length : Int)) = false := by simp [hl]
    clear hl
    go_enter Try.func13, Try.ntmps13
    go_wp2
    generalize hwz : (((w.alloc (.cells #[.slice A a.length ca] 32))).alloc (.cells #[.slice B b.length cb] 32)) = wz at HA HB HW c0 c1 ⊢
    clear hwz
    go_loopw [5] (fun v w' => ∃ k : Nat, k ≤ a.length ∧ v = .int .i64 k ∧ Hid (∀ i, i < k → fl a i = fl b i) ∧ ∃ q, w' = wz.drewN q) (fun v _ => a.length - (intOf v).toNat)
    case atStart => exact ⟨0, Nat.zero_le _, rfl, Lib.hid (fun i h => by omega), 0, rfl⟩
    case round =>
      obtain ⟨k, hk, rfl, hs, q, rfl⟩ := hrel
      by_cases hlt : k < a.length
      · obtain ⟨aa, rfl, haa, ga0, ga1, ga2, ga3, ga4⟩ := HA.out.flt hlt
        obtain ⟨bb, rfl, hbb, gb0, gb1, gb2, gb3, gb4⟩ := HB.out.flt (show k < b.length by have := HL.out; omega)
        have hkn : k < b.length := by have := HL.out; omega
        obtain ⟨x, hx⟩ : ∃ x, x = fl a k := ⟨_, rfl⟩
        obtain ⟨y, hy⟩ : ∃ y, y = fl b k := ⟨_, rfl⟩
        rw [← hx] at ga0 ga1 ga3
        rw [← hy] at gb0 gb1 gb3
        have HX := Lib.hid hx
        have HY := Lib.hid hy
        clear hx hy
        by_cases he : x = y
        · subst he
          go_wp2
          go_quiet (fail)
          go_wp2
          go_roundw
          case rel => exact ⟨k + 1, hlt, by go_num, Lib.hid (fun i hi => by rcases Nat.lt_or_eq_of_le (Nat.lt_succ_iff.1 hi) with h | rfl; exact hs.out i h; exact HX.out.symm.trans HY.out), _, rfl⟩
          case measure => simp [intOf]; omega
        · have HE := Lib.hid he
          obtain ⟨d1, k1, a1⟩ := x
          obtain ⟨d2, k2, a2⟩ := y
          simp only [] at ga0 ga1 ga3 gb0 gb1 gb3
          clear he
          by_cases h1 : d1 = d2
          · subst h1
            by_cases h2 : k1 = k2
            · subst h2
              by_cases h3 : a1 = a2
              · subst h3; exact absurd rfl HE.out
              · have h3' : (a1 == a2) = false := beq_eq_false_iff_ne.mpr h3
                clear h3
                (go_wp2; go_quiet (fail); go_wp2; go_ret; exact ⟨ret_bool (by symm; rw [decide_eq_false_iff_not]; rintro rfl; exact HE.out (HX.out.trans HY.out.symm)), below_drewN (below_drewN HW.out _) _⟩)
            · have h2' : (k1 == k2) = false := beq_eq_false_iff_ne.mpr h2
              clear h2
              (go_wp2; go_quiet (fail); go_wp2; go_ret; exact ⟨ret_bool (by symm; rw [decide_eq_false_iff_not]; rintro rfl; exact HE.out (HX.out.trans HY.out.symm)), below_drewN (below_drewN HW.out _) _⟩)
          · have h1' : (d1 == d2) = false := beq_eq_false_iff_ne.mpr h1
            clear h1
            (go_wp2; go_quiet (fail); go_wp2; go_ret; exact ⟨ret_bool (by symm; rw [decide_eq_false_iff_not]; rintro rfl; exact HE.out (HX.out.trans HY.out.symm)), below_drewN (below_drewN HW.out _) _⟩)
      · go_wp2
        go_ret
        exact ⟨ret_bool (by symm; rw [decide_eq_true_iff]; exact eqFrom HL.out (d := default) fun i hi => hs.out i (by omega)), below_drewN HW.out _⟩
  · have HL := Lib.hid hl
    have hl2 : ((a.length : Int) != (b.length : Int)) = true := bne_iff_ne.mpr (by omega)
    clear hl
    go_enter Try.func13, Try.ntmps13
    go_wp2
    go_ret
    exact ⟨ret_bool (by symm; rw [decide_eq_false_iff_not]; rintro rfl; exact HL.out rfl), HW.out⟩

set_option maxHeartbeats 1000000 in
set_option maxRecDepth 100000 in
theorem lowDigits_calls (l : List Int) (A : Option Addr) (c : Nat) (w : World) (hl : Rd encI 1 w A l) (hn : l.length ≤ 1099511627776) (hb : ∀ x ∈ l, 0 ≤ x ∧ x ≤ 1000) :
    Calls Try.prog 12 #[.slice A l.length c] w (RetI w (low l)) := by
  have HL := Lib.hid hl
  have HB := Lib.hid hb
  clear hl hb
  have HO0 : Hid (Own encI 1 3 w.heap.size (w.alloc (.cells #[] 3)) (.slice (some ⟨w.heap.size, 0, none⟩) 0 0) []) := Lib.hid (Own.lit w #[] [] (Nat.le_refl _) (by simp [maxLen]) encI_len rfl)
  go_enter Try.func12, Try.ntmps12
  go_wp2
  go_loopw [3, 4] (fun V i w' => ∃ (y : Ext w) (k : Nat), w' = y.1 ∧ i = .int .i64 k ∧ k ≤ l.length ∧ Hid (Own encI 1 3 w.heap.size y.1 V (low (l.take k)))) (fun _ i _ => l.length - (intOf i).toNat)
  case atStart => exact ⟨⟨_, below_alloc (Below.refl _ _) _⟩, 0, rfl, rfl, Nat.zero_le _, HO0⟩
  case round =>
    obtain ⟨y, k, rfl, rfl, hk, HO⟩ := hrel
    clear HO0
    by_cases hlt : k < l.length
    · obtain ⟨ad, rfl, hab, g⟩ := (HL.out.ext y).int hlt
      obtain ⟨x, hx⟩ : ∃ x, x = l.getD k 0 := ⟨_, rfl⟩
      obtain ⟨hx0, hx1⟩ := HB.out x (by rw [hx]; simp [List.getElem?_eq_getElem hlt])
      rw [← hx] at g
      have HT : Hid (low (l.take (k + 1)) = low (l.take k) ++ [x % 100]) := Lib.hid (by unfold low; rw [List.take_succ_eq_append_getElem hlt, List.map_append, hx]; simp [List.getElem?_eq_getElem hlt])
      have hll : (low (l.take k)).length = k := by unfold low; simp; omega
      have HLL := Lib.hid hll
      have hys := y.2.size
      clear hx hll
      go_wp2_with (at_builtin; go_loud (refine wpList_append_list elemInt rfl rfl (v := u3) rfl (HO.out.alloc _) [x % 100] ⟨y.1.heap.size, 0, none⟩ 1 rfl encI_len (rd_lit y.1 _ _ (by simp [maxLen]) encI_len rfl) (fun y u hu => by simp [encI] at hu; subst hu; rfl) (by have := HLL.out; simp only [List.length_cons, List.length_nil]; omega) (by omega) (by simp; omega) ?_; intro v6 w6 ho6 hg6 hn6; have HO6 := Lib.hid ho6; have HG6 := Lib.hid (((Gr.refl y.1 u3).alloc _).trans hg6); clear ho6 hg6 hn6))
      go_roundw
      case rel => exact ⟨⟨w6, y.2.trans (HG6.out.below (by omega) fun b hb => (HO.out.lt b hb).1)⟩, k + 1, rfl, by go_num, hlt, Lib.hid (by rw [HT.out]; exact HO6.out)⟩
      case measure => simp [intOf]; omega
    · have hkk : k = l.length := by omega
      subst hkk
      have HO2 : Hid (Own encI 1 3 w.heap.size y.1 u3 (low l)) := Lib.hid (by have := HO.out; rwa [List.take_of_length_le (Nat.le_refl _)] at this)
      go_wp2
      go_ret
      exact retI_of_own HO2.out y.2
end Go.Proofs.Ytihjakpedbaokaa.K
