/- Walks: a class and all above it; slices.Index and slices.Contains over numbers; impl.is. -/
import Derived.Test.YtihjakpedbaokaaC01
import Derived.Test.YtihjakpedbaokaaC00
import Derived.Test.YtihjakpedbaokaaC02
import Derived.ArgAppend
import Derived.Deep.RegionLawGrows
import Derived.Shelf.Abstract
import Derived.Laws.OwnMore
namespace Go.Proofs.Ytihjakpedbaokaa.K
open Go Go.RowKit

/-! ### plain -/
/-- A class and all above it. -/
def above (t : Tree) (a : Int) : List Int := if 0 ≤ a ∧ (cl t a.toNat).parent < a then a :: above t (cl t a.toNat).parent else []
  termination_by (a + 1).toNat
  decreasing_by omega
theorem above_yes {t : Tree} {a : Int} (h : 0 ≤ a) (h2 : (cl t a.toNat).parent < a) : above t a = a :: above t (cl t a.toNat).parent := by rw [above, if_pos ⟨h, h2⟩]
theorem above_no {t : Tree} {a : Int} (h : ¬ 0 ≤ a) : above t a = [] := by rw [above, if_neg (by omega)]
theorem above_len (t : Tree) : ∀ (m : Nat) (a : Int), (a + 1).toNat = m → (above t a).length ≤ m := by
  intro m
  induction m using Nat.strongRecOn with
  | ind m ih =>
    intro a h
    rw [above]
    split
    · rename_i hc
      have := ih ((cl t a.toNat).parent + 1).toNat (by omega) _ rfl
      simp only [List.length_cons]; omega
    · simp
theorem valid_parent {t : Tree} (h : validTree t = true) {i : Nat} (hi : i < t.length) : -1 ≤ (cl t i).parent ∧ (cl t i).parent < i ∧ (0 < i → 0 ≤ (cl t i).parent) := by
  unfold validTree at h
  rw [Bool.and_eq_true] at h
  have := (allFrom_iff _ 0 rfl).1 h.1 i (by omega) hi
  unfold clsOk at this
  simp only [Bool.and_eq_true] at this
  obtain ⟨-, h2⟩ := this
  split at h2
  · simp at h2; omega
  · unfold within at h2; simp at h2; omega
/-- The first place of a number in a list, or -1. -/
def indexOf (l : List Int) (x : Int) : Int := idxFrom l.length (fun i => x == l.getD i 0) 0
def hasI (l : List Int) (x : Int) : Bool := decide (0 ≤ indexOf l x)
def isc (t : Tree) (a b : Int) : Bool := hasI (above t a) b

/-! ### words -/
section
variable {w : World} {A : Option Addr}
theorem Rd.int {l : List Int} (h : Rd encI 1 w A l) {i : Nat} (hi : i < l.length) : ∃ ad, A = some ad ∧ ad.block < w.heap.size ∧ w.cell? (ad.add i) = some (.int .i64 (l.getD i 0)) := by
  obtain ⟨ad, e, hl, hc⟩ := h i (l.getD i 0) (by simp [List.getElem?_eq_getElem hi])
  exact ⟨ad, e, hl, by have := hc 0 _ rfl; simpa using this⟩
/-- 'make([]T, 0, n)' as a row of the call's own. -/
theorem wpList_make_elem {P : Program} {α : Type} {enc : α → List Value} {k : Nat} {E : TypeId} {base : Nat} {ops : Array Oper} {rest : List Oper} {o : Oper} {a : Act} {Q : Exit → Act → World → Prop} {T : TypeId} {bytes : Nat} {z : Value} (I : Elem P T E k bytes z)
    (hgd : o.guard = none) (l c : Operand) (ho : o.op = .makeSlice T l c) (n : Nat) (hl : a.eval l = .int .i64 0) (hc : a.eval c = .int .i64 n) (hlen : bytes * n ≤ 281474976710656) (hb0 : 0 < bytes) (hbase : base ≤ w.heap.size)
    (h : ∀ w', Own enc k E base w' (.slice (some ⟨w.heap.size, 0, none⟩) 0 n) ([] : List α) → w.grownBy w' none → wpList P ops Q rest (a.put o.dst (.slice (some ⟨w.heap.size, 0, none⟩) 0 n)) w') : wpList P ops Q (o :: rest) a w := by
  obtain ⟨i, hi, hz0, hz1, hz2⟩ := info_parts I.info
  exact wpList_make_own w hgd l c T ho base E i z k I.under hi hz0 hz1 .i64 .i64 n n hl hc rfl (by rw [hz2]; exact hlen) (by unfold maxLen; have := Nat.le_mul_of_pos_left n hb0; omega) hbase h
theorem below_grown {w0 w' : World} {B : Nat} (hb : Below B w0 w) (hg : w.grownBy w' none) (hB : B ≤ w.heap.size) : Below B w0 w' := hb.grown hg hB fun g h => by cases h
end

/-! ### walks -/
set_option maxHeartbeats 400000 in
theorem indexI_calls (l : List Int) (A : Option Addr) (c : Nat) (x : Int) (w : World) (hl : Rd encI 1 w A l) (hn : l.length ≤ 4611686018427387904) :
    Calls Try.prog 85 #[.slice A l.length c, .int .i64 x] w fun e w' => e = .returned (.int .i64 (indexOf l x)) ∧ Below w.heap.size w w' := by
  have HL := Lib.hid hl
  clear hl
  go_enter Try.func85, Try.ntmps85
  go_wp2
  go_loopw [8] (fun v w' => ∃ k : Nat, k ≤ l.length ∧ v = .int .i64 k ∧ Hid (idxFrom l.length (fun i => x == l.getD i 0) k = indexOf l x) ∧ ∃ n, w' = w.drewN n) (fun v _ => l.length - (intOf v).toNat)
  case atStart => exact ⟨0, Nat.zero_le _, rfl, rfl, 0, rfl⟩
  case round =>
    obtain ⟨k, hk, rfl, hb, n, rfl⟩ := hrel
    by_cases hlt : k < l.length
    · obtain ⟨ad, rfl, hab, g⟩ := HL.out.int hlt
      obtain ⟨y, hy⟩ : ∃ y, y = l.getD k 0 := ⟨_, rfl⟩
      rw [← hy] at g
      have HYY := Lib.hid hy
      clear hy
      by_cases he : x = y
      · have HE := Lib.hid he
        have he' : (x == y) = true := by simp [he]
        clear he
        go_wp2
        go_ret
        exact ⟨ret_int (by rw [← hb.out, idxFrom_hit hlt (by rw [← HYY.out]; simp [HE.out])]), below_drewN (Below.refl _ _) _⟩
      · have HE := Lib.hid he
        have he' : (x == y) = false := by simp [he]
        clear he
        go_wp2
        go_roundw
        case rel => exact ⟨k + 1, hlt, by go_num, Lib.hid (by rw [← hb.out, idxFrom_miss hlt (by rw [← HYY.out]; simp [HE.out])]), n, rfl⟩
        case measure => simp [intOf]; omega
    · go_wp2
      go_ret
      exact ⟨ret_int (by rw [← hb.out, idxFrom_end (by omega)]), below_drewN (Below.refl _ _) _⟩

set_option maxHeartbeats 400000 in
theorem hasI_calls (l : List Int) (A : Option Addr) (c : Nat) (x : Int) (w : World) (hl : Rd encI 1 w A l) (hn : l.length ≤ 4611686018427387904) :
    Calls Try.prog 101 #[.slice A l.length c, .int .i64 x] w fun e w' => e = .returned (.bool (hasI l x)) ∧ Below w.heap.size w w' := by
  have HL := Lib.hid hl
  clear hl
  go_enter Try.func101, Try.ntmps101
  go_wp2_with (go_at_call 85; refine (calls_ext0 (W := w) (indexI_calls l A c x _ HL.out hn)).mono ?_; rintro e w1 ⟨rfl, y, rfl⟩)
  go_ret
  exact ⟨ret_bool rfl, y.2⟩

/-- A call hands back a list of numbers in memory of its own. -/
def RetI (w : World) (l : List Int) (e : Ending) (w' : World) : Prop :=
  ∃ A c, e = .returned (.slice A l.length c) ∧ Rd encI 1 w' A l ∧ (∀ ad, A = some ad → w.heap.size ≤ ad.block) ∧ l.length ≤ c ∧ Below w.heap.size w w'
theorem retI_of_own {w w' : World} {v : Value} {l : List Int} (h : Own encI 1 3 w.heap.size w' v l) (hb : Below w.heap.size w w') : RetI w l (.returned v) w' := by
  obtain ⟨A, c, rfl, hr, hf, hc⟩ := h.form encI_len
  exact ⟨A, c, rfl, hr, fun ad e => (hf ad e).1, hc, hb⟩
theorem retI_of_clip {w w' : World} {A : Option Addr} {n n2 c : Nat} {l : List Int} (h : Own encI 1 3 w.heap.size w' (.slice A n c) l) (hn2 : n2 = l.length) (hb : Below w.heap.size w w') : RetI w l (.returned (.slice A n2 n2)) w' := by
  subst hn2
  obtain ⟨hr, hn, hf⟩ := h.rd encI_len
  exact ⟨A, _, rfl, hr, fun ad e => (hf ad e).1, Nat.le_refl _, hb⟩

set_option maxHeartbeats 1000000 in
set_option maxRecDepth 100000 in
theorem above_calls (t : Tree) (At : Option Addr) (nt : Nat) (a : Int) (w : World) (hv : validTree t = true) (ht : Rd encC 2 w At t) (htn : t.length ≤ 8) (ha : a < t.length) (ha1 : -1 ≤ a) :
    Calls Try.prog 103 #[.agg #[.slice At t.length nt], .int .i64 a] w (RetI w (above t a)) := by
  have HT := Lib.hid ht
  have HV := Lib.hid hv
  have hal := above_len t _ a rfl
  clear ht hv
  go_enter Try.func103, Try.ntmps103
  go_wp2_with (at_make; refine wpList_make_elem (k := 1) (enc := encI) (E := 3) (base := w.heap.size + 1) elemInt rfl (.const (.int .i64 0)) (.tmp 8) rfl t.length rfl rfl (by omega) (by omega) (by simp) ?_; intro w1 ho1 hg1)
  have hb1 : Below (w.heap.size + 1) (w.alloc (.cells #[.slice At t.length nt] 24)) w1 := below_grown (Below.refl _ _) hg1 (by simp)
  have HO1 : Hid (Own encI 1 3 (w.heap.size + 1) w1 (.slice (some ⟨w.heap.size + 1, 0, none⟩) 0 t.length) []) := Lib.hid (by simpa using ho1)
  have HY : Hid (∀ w', Below (w.heap.size + 1) (w.alloc (.cells #[.slice At t.length nt] 24)) w' → Below w.heap.size w w') := Lib.hid fun w' h => (below_alloc (Below.refl w.heap.size w) _).trans (h.mono (by omega))
  have HBX : Hid (∀ w', Below (w.heap.size + 1) (w.alloc (.cells #[.slice At t.length nt] 24)) w' → w'.cell? ⟨w.heap.size, 0, none⟩ = some (.slice At t.length nt)) := Lib.hid fun w' h => (h.cell (p := ⟨w.heap.size, 0, none⟩) (by simp)).trans (by simp)
  clear ho1 hg1
  go_wp2
  go_loopw [1, 5] (fun av lv w' => ∃ (x : Int) (l : List Int), x < t.length ∧ -1 ≤ x ∧ av = .int .i64 x ∧ Hid (l ++ above t x = above t a) ∧ Hid (Own encI 1 3 (w.heap.size + 1) w' lv l) ∧ Hid (Below (w.heap.size + 1) (w.alloc (.cells #[.slice At t.length nt] 24)) w')) (fun av _ _ => (intOf av + 1).toNat)
  case atStart => exact ⟨a, [], ha, ha1, rfl, Lib.hid rfl, HO1, Lib.hid hb1⟩
  case round =>
    obtain ⟨x, l, hx, hx1, rfl, hb, HO, HX⟩ := hrel
    have hll : l.length ≤ (above t a).length := by rw [← hb.out]; simp
    have hsz : w.heap.size + 1 ≤ wr.heap.size := by have := HX.out.size; simpa using this
    clear hb1 HO1
    by_cases h0 : 0 ≤ x
    · obtain ⟨k, rfl⟩ : ∃ k : Nat, x = k := ⟨x.toNat, by omega⟩
      have hk : k < t.length := by omega
      have hpv := valid_parent HV.out hk
      obtain ⟨ad, rfl, hbl, -, g1⟩ := HT.out.cls hk
      obtain ⟨pa, hpa⟩ : ∃ pa, pa = (cl t k).parent := ⟨_, rfl⟩
      rw [← hpa] at g1 hpv
      have HPA := Lib.hid hpa
      have HE : Hid (above t (k : Int) = (k : Int) :: above t pa) := Lib.hid (by rw [above_yes (a := (k : Int)) (by omega) (by rw [Int.toNat_natCast, ← HPA.out]; omega), Int.toNat_natCast, ← HPA.out])
      have cp : ∀ y : Ext w, y.1.cell? ⟨(ad.add (k * 2)).block, (ad.add (k * 2)).off + 1, none⟩ = some (.int .i64 pa) := fun y => y.cell g1
      have HCP := Lib.hid cp
      clear g1 hpa h0 hx hx1 cp
      go_wp2_with (at_builtin; (refine wpList_append_elem elemInt rfl (.tmp 18) (.tmp 20) rfl (v := u5) rfl (HO.out.alloc _) (k : Int) ⟨wr.heap.size, 0, none⟩ 1 rfl rfl (fun j u hj => by match j, hj with | 0, hj => simp [encI] at hj; subst hj; simp [Addr.add]) (fun u hu => by simp [encI] at hu; subst hu; rfl) (by omega) (by omega) (by simp; omega) ?_; intro v1 w2 ho1 hg1; have hb2 := own_below (HX.out.alloc hsz _) (HO.out.alloc _) hg1 (by simp; omega); have HO2 := Lib.hid ho1; have c2 := HBX.out w2 hb2; have c3 := HCP.out ⟨w2, HY.out w2 hb2⟩; clear ho1 hg1))
      go_roundw
      case rel => exact ⟨pa, l ++ [(k : Int)], by omega, by omega, rfl, Lib.hid (by rw [← hb.out, HE.out]; simp), HO2, Lib.hid hb2⟩
      case measure => simp [intOf]; omega
    · obtain ⟨A', c', rfl, -, -, hlc⟩ := HO.out.form encI_len
      go_wp2
      go_ret
      exact retI_of_clip ((show Own encI 1 3 (w.heap.size + 1) wr _ (above t a) by rw [← hb.out, above_no (show ¬ 0 ≤ x by omega), List.append_nil]; exact HO.out).mono (by omega)) (by rw [← hb.out, above_no (show ¬ 0 ≤ x by omega), List.append_nil]) (HY.out _ HX.out)

set_option maxHeartbeats 400000 in
theorem isc_calls (t : Tree) (At : Option Addr) (nt : Nat) (a b : Int) (w : World) (hv : validTree t = true) (ht : Rd encC 2 w At t) (htn : t.length ≤ 8) (ha : a < t.length) (ha1 : -1 ≤ a) :
    Calls Try.prog 87 #[.agg #[.slice At t.length nt], .int .i64 a, .int .i64 b] w fun e w' => e = .returned (.bool (isc t a b)) ∧ Below w.heap.size w w' := by
  have HT := Lib.hid ht
  have HV := Lib.hid hv
  have hal := above_len t _ a rfl
  clear ht hv
  go_enter Try.func87, Try.ntmps87
  go_wp2_with (first
    | (go_at_call 103; refine (above_calls t At nt a (w.alloc (.cells #[.slice At t.length nt] 24)) HV.out (HT.out.alloc _) htn ha ha1).mono ?_; rintro e w1 ⟨B, c, rfl, hr, -, -, hb⟩; have HR := Lib.hid hr; have HB := Lib.hid hb; clear hr hb)
    | (go_at_call 101; refine (calls_ext0 (W := w1) (hasI_calls _ B c b w1 HR.out (by omega))).mono ?_; rintro e w2 ⟨rfl, y, rfl⟩))
  go_ret
  exact ⟨ret_bool rfl, below_trans (below_trans (below_alloc (Below.refl _ _) _) HB.out) y.2⟩
end Go.Proofs.Ytihjakpedbaokaa.K
namespace Go.Proofs.Ytihjakpedbaokaa.K
open Go Go.RowKit

/-- A fault of a program: its class, its code, the fault that was handled then. -/
structure Flt where
  cls : Int
  code : Int
  ctx : Int
instance : Inhabited Flt := ⟨⟨0, 0, -1⟩⟩
def encF (f : Flt) : List Value := [.int .i64 f.cls, .int .i64 f.code, .int .i64 (-1), .int .i64 f.ctx, .bool false]
theorem encF_len (f : Flt) : (encF f).length = 5 := rfl
theorem elemFault : Elem Try.prog 30 59 5 40 (.agg #[.int .i64 0, .int .i64 0, .int .i64 0, .int .i64 0, .bool false]) := ⟨Try.underlying30, by kernel_rfl, rfl, by omega⟩

/-! ### append on an owned row, and where it lies then -/
section
variable {P : Program} {α : Type} {enc : α → List Value} {k : Nat} {E : TypeId} {base : Nat} {w : World} {v : Value} {xs : List α} {T : TypeId} {bytes : Nat} {z : Value}
theorem run_append_elem (I : Elem P T E k bytes z) (ty : TypeId) (hown : Own enc k E base w v xs) (y : α) (ad : Addr) (c : Nat)
    (hl : (enc y).length = k) (hnews : ∀ j u, (enc y)[j]? = some u → w.cell? (ad.add j) = some u) (h1 : ∀ u ∈ enc y, u.oneCell' = true) (hlen : (xs.length + 1) * bytes ≤ 140737488355328) (hb0 : 0 < bytes) (hbase : base ≤ w.heap.size) :
    ∃ v' w', (Builtin.append_ #[T, T] ty #[v, .slice (some ad) 1 c]).run P w = .ok v' w' ∧ Own enc k E base w' v' (xs ++ [y]) ∧ w.grownBy w' v.ownBlock ∧ ∀ b, v'.ownBlock = some b → v.ownBlock = some b ∨ w.heap.size ≤ b := by
  obtain ⟨i, hi, hz0, hz1, hz2⟩ := info_parts I.info
  have hm : xs.length + 1 ≤ maxLen := by unfold maxLen; have := Nat.le_mul_of_pos_right (xs.length + 1) hb0; omega
  have hfl : (enc y).length = 1 * k := by rw [hl, Nat.one_mul]
  have hown' := hown
  obtain ⟨h1', h2'⟩ := hown
  have hkk := hz1
  rcases h2' with ⟨rfl, hz⟩ | ⟨g, cap, cur, rfl, hg, hh, hcap, hmax, hcs, htk⟩
  · have hx : xs = [] := List.eq_nil_of_length_eq_zero hz
    subst hx
    obtain ⟨v', w', hr, ho, hgr, _⟩ := run_append_own (P := P) w w.heap.size T ty E i z k bytes I.under hi hz0 hz1 hz2 I.cells I.pos (.slice none 0 0) 0 [] (World.ownsRow_nil _ _ _ _) ad 1 c (enc y) hfl hnews h1 hm hlen (Nat.le_refl _)
    have ho2 : Own enc k E w.heap.size w' v' ([] ++ [y]) := by unfold Own; simpa using ho
    exact ⟨v', w', hr, ho2.mono hbase, hgr, fun b hb => .inr (ho2.lt b hb).1⟩
  · by_cases hroom : xs.length + 1 ≤ cap
    · obtain ⟨v', w', hr, ho, hgr, _⟩ := run_append_own (P := P) w base T ty E i z k bytes I.under hi hz0 hz1 hz2 I.cells I.pos _ xs.length (xs.flatMap enc) hown' ad 1 c (enc y) hfl hnews h1 hm hlen hbase
      have hr2 := run_append_room (P := P) w T ty E i I.under hi g xs.length cap cur hh ad 1 c (enc y) (by rw [hz1]; exact hfl) hnews h1 hroom (by rw [hz1, hl, hcs]; calc xs.length * k + k = (xs.length + 1) * k := by rw [Nat.add_mul]; omega
          _ ≤ cap * k := Nat.mul_le_mul_right _ hroom)
      refine ⟨v', w', hr, ?_, hgr, ?_⟩
      · unfold Own; rw [List.length_append, List.flatMap_append]; simpa using ho
      · intro b hb
        rw [hr] at hr2
        cases hr2
        exact .inl hb
    · obtain ⟨v', w', hr, ho, hgr⟩ := run_append_arg_grows (P := P) w T ty E i z k bytes I.under hi hz0 hz1 hz2 I.cells I.pos ⟨g, 0, none⟩ xs.length cap (xs.flatMap enc) h1' (fun j u hu => World.ownsRow.cells (base := base) (e := E) (size := k) (v := .slice (some ⟨g, 0, none⟩) xs.length cap) ⟨h1', .inr ⟨g, cap, cur, rfl, hg, hh, hcap, hmax, hcs, htk⟩⟩ rfl j u hu) ad 1 c (enc y) hfl hnews (by omega) hm hlen
      have ho2 : Own enc k E w.heap.size w' v' (xs ++ [y]) := by unfold Own; rw [List.length_append, List.flatMap_append]; simpa using ho
      exact ⟨v', w', hr, ho2.mono hbase, ⟨hgr.os, hgr.tape, hgr.output, hgr.size, fun i hi _ => hgr.block i hi (by simp)⟩, fun b hb => .inr (ho2.lt b hb).1⟩

/-- 'out = append(out, y)' on an owned row: it lies where it lay, or in a new block. -/
theorem wpList_append_elem2 {ops : Array Oper} {rest : List Oper} {o : Oper} {a : Act} {Q : Exit → Act → World → Prop} (I : Elem P T E k bytes z)
    (hgd : o.guard = none) (s x : Operand) (ho : o.op = .call { callee := .builtin .append, args := #[s, x], argTypes := #[T, T] })
    (hs : a.eval s = v) (hown : Own enc k E base w v xs) (y : α) (ad : Addr) (c : Nat) (hx : a.eval x = .slice (some ad) 1 c)
    (hl : (enc y).length = k) (hnews : ∀ j u, (enc y)[j]? = some u → w.cell? (ad.add j) = some u) (h1 : ∀ u ∈ enc y, u.oneCell' = true) (hlen : (xs.length + 1) * bytes ≤ 140737488355328) (hb0 : 0 < bytes) (hbase : base ≤ w.heap.size)
    (h : ∀ v' w', Own enc k E base w' v' (xs ++ [y]) → w.grownBy w' v.ownBlock → (∀ b, v'.ownBlock = some b → v.ownBlock = some b ∨ w.heap.size ≤ b) → wpList P ops Q rest (a.put o.dst v') w') : wpList P ops Q (o :: rest) a w := by
  refine wpList_plain hgd fun K hK' => ?_
  obtain ⟨v', w', hr, h2, h3, h4⟩ := run_append_elem I o.type hown y ad c hl hnews h1 hlen hb0 hbase
  unfold Oper.wp
  simp [execOp, ho, resolve, invoke, builtin, hs, hx, hr, Result.andThen]
  exact hK' _ _ (h v' w' h2 h3 h4)
/-- The same as one step of a region that draws. -/
theorem step_append_elem2 {ops : Array Oper} {o : Oper} {a : Act} {K : Act → World → Prop} {Q : Exit → Act → World → Prop} {X : Prop} (I : Elem P T E k bytes z)
    (hgd : o.guard = none) (s x : Operand) (ho : o.op = .call { callee := .builtin .append, args := #[s, x], argTypes := #[T, T] })
    (hs : a.eval s = v) (hown : Own enc k E base w v xs) (y : α) (ad : Addr) (c : Nat) (hx : a.eval x = .slice (some ad) 1 c)
    (hl : (enc y).length = k) (hnews : ∀ j u, (enc y)[j]? = some u → w.cell? (ad.add j) = some u) (h1 : ∀ u ∈ enc y, u.oneCell' = true) (hlen : (xs.length + 1) * bytes ≤ 140737488355328) (hb0 : 0 < bytes) (hbase : base ≤ w.heap.size)
    (h : ∀ v' w', Own enc k E base w' v' (xs ++ [y]) → w.grownBy w' v.ownBlock → (∀ b, v'.ownBlock = some b → v.ownBlock = some b ∨ w.heap.size ≤ b) → K (a.put o.dst v') w') : if Region.wanted o (yielded ops a.tmps) = true then Oper.wp P o a w K Q else X := by
  have hw : Region.wanted o (yielded ops a.tmps) = true := by simp [Region.wanted, hgd]
  rw [if_pos hw]
  obtain ⟨v', w', hr, h2, h3, h4⟩ := run_append_elem I o.type hown y ad c hl hnews h1 hlen hb0 hbase
  unfold Oper.wp
  simp [execOp, ho, resolve, invoke, builtin, hs, hx, hr, Result.andThen]
  exact h v' w' h2 h3 h4
end

/-! ### the machine's memory -/
/-- Where the machine lies, and its log's and its faults' slices. -/
structure M where
  g : Nat
  lv : Value
  fv : Value
def M.blk (m : M) (b : Nat) : Prop := b = m.g ∨ m.lv.ownBlock = some b ∨ m.fv.ownBlock = some b
/-- What a machine holds. -/
structure St where
  log : List Int
  flt : List Flt
  first : Int
/-- What a machine's program and tree are, and where they lie. -/
structure Env where
  base : Nat
  t : Tree
  At : Option Addr
  nt : Nat
  p : Prg
  A : Option Addr
  c : Nat

structure Mach (E : Env) (w : World) (m : M) (s : St) : Prop where
  blk : Blk w m.g 72 #[.slice E.At E.t.length E.nt, .slice E.A E.p.length E.c, m.lv, m.fv, .int .i64 s.first]
  ge : E.base ≤ m.g
  log : Own encI 1 3 E.base w m.lv s.log
  flt : Own encF 5 59 E.base w m.fv s.flt
  p : Rd encL 4 w E.A E.p
  pb : ∀ ad, E.A = some ad → ad.block < E.base
  t : Rd encC 2 w E.At E.t
  tb : ∀ ad, E.At = some ad → ad.block < E.base

/-- A world that only the machine's own blocks have changed in. -/
structure Step (w : World) (m : M) (w' : World) (m' : M) : Prop where
  os : w'.os = w.os
  tape : w'.tape = w.tape
  output : w'.output = w.output
  size : w.heap.size ≤ w'.heap.size
  block : ∀ b, b < w.heap.size → ¬ m.blk b → w'.heap[b]? = w.heap[b]?
  new : ∀ b, m'.blk b → m.blk b ∨ w.heap.size ≤ b

section
variable {E : Env} {w w' w'' : World} {m m' m'' : M} {s s' : St}
theorem Step.refl (w : World) (m : M) : Step w m w m := ⟨rfl, rfl, rfl, Nat.le_refl _, fun _ _ _ => rfl, fun _ h => .inl h⟩
theorem Step.trans (h : Step w m w' m') (k : Step w' m' w'' m'') : Step w m w'' m'' :=
  ⟨k.os.trans h.os, k.tape.trans h.tape, k.output.trans h.output, Nat.le_trans h.size k.size,
   fun b hb hn => (k.block b (Nat.lt_of_lt_of_le hb h.size) (fun hx => by rcases h.new b hx with h1 | h1; exact hn h1; omega)).trans (h.block b hb hn),
   fun b hb => by
    rcases k.new b hb with h1 | h1
    · exact h.new b h1
    · exact .inr (Nat.le_trans h.size h1)⟩
theorem Step.of_below (h : Below w.heap.size w w') : Step w m w' m := ⟨h.os, h.tape, h.output, h.size, fun b hb _ => h.block b hb, fun _ h => .inl h⟩
theorem Step.ext (m : M) (x : Ext w) : Step w m x.1 m := Step.of_below x.2
theorem Step.alloc (h : Step w m w' m') (o : Obj) : Step w m (w'.alloc o) m' := h.trans (Step.of_below (below_alloc (Below.refl _ _) o))
theorem Step.drewN (h : Step w m w' m') (n : Nat) : Step w m (w'.drewN n) m' := ⟨h.os, h.tape, h.output, h.size, h.block, h.new⟩
theorem Step.drew (h : Step w m w' m') : Step w m w'.drew m' := ⟨h.os, h.tape, h.output, h.size, h.block, h.new⟩
/-- A store into a block that is new since w, or the machine's. -/
theorem Step.setCell (h : Step w m w' m') {a : Addr} (ha : w.heap.size ≤ a.block ∨ m.blk a.block) (u : Value) : Step w m (w'.setCell a u) m' :=
  ⟨h.os, h.tape, h.output, by simpa using h.size, fun b hb hn => (Below.heap_setCell w' a u b (by rintro rfl; rcases ha with ha | ha; omega; exact hn ha)).trans (h.block b hb hn), h.new⟩
/-- An append to the log. -/
theorem Step.grownL (h : Step w m w' m') {v : Value} (hg : w'.grownBy w'' m'.lv.ownBlock) (hn : ∀ b, v.ownBlock = some b → m'.lv.ownBlock = some b ∨ w'.heap.size ≤ b) : Step w m w'' { m' with lv := v } :=
  h.trans ⟨hg.os, hg.tape, hg.output, hg.size, fun b hb hx => hg.block b hb (fun e => hx (.inr (.inl e.symm))), fun b hb => by
    rcases hb with hb | hb | hb
    · exact .inl (.inl hb)
    · rcases hn b hb with h1 | h1
      · exact .inl (.inr (.inl h1))
      · exact .inr h1
    · exact .inl (.inr (.inr hb))⟩
theorem Step.grownF (h : Step w m w' m') {v : Value} (hg : w'.grownBy w'' m'.fv.ownBlock) (hn : ∀ b, v.ownBlock = some b → m'.fv.ownBlock = some b ∨ w'.heap.size ≤ b) : Step w m w'' { m' with fv := v } :=
  h.trans ⟨hg.os, hg.tape, hg.output, hg.size, fun b hb hx => hg.block b hb (fun e => hx (.inr (.inr e.symm))), fun b hb => by
    rcases hb with hb | hb | hb
    · exact .inl (.inl hb)
    · exact .inl (.inr (.inl hb))
    · rcases hn b hb with h1 | h1
      · exact .inl (.inr (.inr h1))
      · exact .inr h1⟩
theorem Step.below (h : Step w m w' m') {B : Nat} (hB : B ≤ w.heap.size) (hm : ∀ b, m.blk b → B ≤ b) : Below B w w' :=
  ⟨h.os, h.tape, h.output, h.size, fun b hb => h.block b (by omega) (fun hx => by have := hm b hx; omega)⟩

theorem own_type {α : Type} {enc : α → List Value} {k : Nat} {T : TypeId} {base : Nat} {v : Value} {xs : List α} (h : Own enc k T base w v xs) {b : Nat} (hb : v.ownBlock = some b) : ∃ cs, w.heap[b]? = some (.cells cs T (0, 0)) := by
  obtain ⟨_, h2⟩ := h
  rcases h2 with ⟨rfl, _⟩ | ⟨g, cap, cur, rfl, hg, hh, _⟩
  · cases hb
  · cases hb; exact ⟨cur, hh⟩
theorem Mach.lt (h : Mach E w m s) : ∀ b, m.blk b → E.base ≤ b ∧ b < w.heap.size := by
  intro b hb
  rcases hb with rfl | hb | hb
  · exact ⟨h.ge, h.blk.lt⟩
  · exact h.log.lt b hb
  · exact h.flt.lt b hb
theorem Mach.lv_ne (h : Mach E w m s) : m.lv.ownBlock ≠ some m.g := fun hb => by
  obtain ⟨cs, hc⟩ := own_type h.log hb
  have := h.blk
  unfold Blk at this
  rw [hc] at this
  cases this
theorem Mach.fv_ne (h : Mach E w m s) : m.fv.ownBlock ≠ some m.g := fun hb => by
  obtain ⟨cs, hc⟩ := own_type h.flt hb
  have := h.blk
  unfold Blk at this
  rw [hc] at this
  cases this
theorem Mach.lf_ne (h : Mach E w m s) {b : Nat} (hl : m.lv.ownBlock = some b) (hf : m.fv.ownBlock = some b) : False := by
  obtain ⟨cs, hc⟩ := own_type h.log hl
  obtain ⟨cs2, hc2⟩ := own_type h.flt hf
  rw [hc] at hc2
  cases hc2
theorem own_keep {α : Type} {enc : α → List Value} {k : Nat} {T : TypeId} {base : Nat} {v : Value} {xs : List α} (h : Own enc k T base w v xs) (hk : ∀ b, v.ownBlock = some b → w'.heap[b]? = w.heap[b]?) : Own enc k T base w' v xs := by
  obtain ⟨h1, h2⟩ := h
  refine ⟨h1, ?_⟩
  rcases h2 with h2 | ⟨g, cap, cur, rfl, hg, hh, r⟩
  · exact .inl h2
  · exact .inr ⟨g, cap, cur, rfl, hg, (hk g rfl).trans hh, r⟩
theorem rd_keep {α : Type} {enc : α → List Value} {k : Nat} {A : Option Addr} {xs : List α} (h : Rd enc k w A xs) (hs : w.heap.size ≤ w'.heap.size) (hk : ∀ ad, A = some ad → w'.heap[ad.block]? = w.heap[ad.block]?) : Rd enc k w' A xs := fun i x hi => by
  obtain ⟨ad, e, hl, hc⟩ := h i x hi
  exact ⟨ad, e, Nat.lt_of_lt_of_le hl hs, fun j u hu => (World.cell?_of_block (w := w) (by rw [block_of_add]; exact hk ad e)).trans (hc j u hu)⟩
/-- What keeps the machine's blocks and all before it keeps the machine. -/
theorem Mach.keep (h : Mach E w m s) (hs : w.heap.size ≤ w'.heap.size) (hk : ∀ b, m.blk b ∨ b < E.base → w'.heap[b]? = w.heap[b]?) : Mach E w' m s :=
  ⟨(hk _ (.inl (.inl rfl))).trans h.blk, h.ge, own_keep h.log fun b hb => hk b (.inl (.inr (.inl hb))), own_keep h.flt fun b hb => hk b (.inl (.inr (.inr hb))),
   rd_keep h.p hs fun ad e => hk _ (.inr (h.pb ad e)), h.pb, rd_keep h.t hs fun ad e => hk _ (.inr (h.tb ad e)), h.tb⟩
theorem Mach.below (h : Mach E w m s) (hb : Below w.heap.size w w') : Mach E w' m s :=
  h.keep hb.size fun b hx => hb.block b (by rcases hx with hx | hx; exact (h.lt b hx).2; have := h.ge; have := h.blk.lt; omega)
theorem Mach.ext (h : Mach E w m s) (x : Ext w) : Mach E x.1 m s := h.below x.2
theorem Mach.alloc (h : Mach E w m s) (o : Obj) : Mach E (w.alloc o) m s := h.below (below_alloc (Below.refl _ _) o)
/-- A store into another block than the machine's, behind the base. -/
theorem Mach.setCell (h : Mach E w m s) {a : Addr} (ha : ¬ m.blk a.block) (hb : E.base ≤ a.block) (u : Value) : Mach E (w.setCell a u) m s :=
  h.keep (by simp) fun b hx => Below.heap_setCell w a u b (by rintro rfl; rcases hx with hx | hx; exact ha hx; omega)
/-- The machine's log, appended to and stored. -/
theorem Mach.setLog (h : Mach E w m s) {v : Value} {l : List Int} (ho : Own encI 1 3 E.base w' v l) (hg : w.grownBy w' m.lv.ownBlock) (hn : ∀ b, v.ownBlock = some b → m.lv.ownBlock = some b ∨ w.heap.size ≤ b) :
    Mach E (w'.setCell ⟨m.g, 2, none⟩ v) { m with lv := v } { s with log := l } := by
  have hgm : w'.heap[m.g]? = w.heap[m.g]? := hg.block _ h.blk.lt (fun e => h.lv_ne e.symm)
  have hvg : ∀ b, v.ownBlock = some b → b ≠ m.g := by
    rintro b hb rfl
    rcases hn _ hb with h1 | h1
    · exact h.lv_ne h1
    · have := h.blk.lt; omega
  have hk : ∀ b, b < E.base → (w'.setCell ⟨m.g, 2, none⟩ v).heap[b]? = w.heap[b]? := fun b hb =>
    (Below.heap_setCell w' ⟨m.g, 2, none⟩ v b (by have := h.ge; simp; omega)).trans (hg.block b (by have := h.ge; have := h.blk.lt; omega) (fun e => by have := (h.lt b (.inr (.inl e.symm))).1; omega))
  have hs : w.heap.size ≤ (w'.setCell ⟨m.g, 2, none⟩ v).heap.size := by have := hg.size; simpa using this
  refine ⟨?_, h.ge, own_keep ho fun b hb => Below.heap_setCell w' _ _ b (hvg b hb), ?_, rd_keep h.p hs fun ad e => hk _ (h.pb ad e), h.pb, rd_keep h.t hs fun ad e => hk _ (h.tb ad e), h.tb⟩
  · have hb : Blk w' m.g 72 #[.slice E.At E.t.length E.nt, .slice E.A E.p.length E.c, m.lv, m.fv, .int .i64 s.first] := hgm.trans h.blk
    have := hb.set_ 2 v
    simpa using this
  · exact own_keep h.flt fun b hb => (Below.heap_setCell w' ⟨m.g, 2, none⟩ v b (by rintro rfl; exact h.fv_ne hb)).trans (hg.block b (h.flt.lt b hb).2 (fun e => h.lf_ne e.symm hb))
theorem Mach.setFlt (h : Mach E w m s) {v : Value} {l : List Flt} (ho : Own encF 5 59 E.base w' v l) (hg : w.grownBy w' m.fv.ownBlock) (hn : ∀ b, v.ownBlock = some b → m.fv.ownBlock = some b ∨ w.heap.size ≤ b) :
    Mach E (w'.setCell ⟨m.g, 3, none⟩ v) { m with fv := v } { s with flt := l } := by
  have hgm : w'.heap[m.g]? = w.heap[m.g]? := hg.block _ h.blk.lt (fun e => h.fv_ne e.symm)
  have hvg : ∀ b, v.ownBlock = some b → b ≠ m.g := by
    rintro b hb rfl
    rcases hn _ hb with h1 | h1
    · exact h.fv_ne h1
    · have := h.blk.lt; omega
  have hk : ∀ b, b < E.base → (w'.setCell ⟨m.g, 3, none⟩ v).heap[b]? = w.heap[b]? := fun b hb =>
    (Below.heap_setCell w' ⟨m.g, 3, none⟩ v b (by have := h.ge; simp; omega)).trans (hg.block b (by have := h.ge; have := h.blk.lt; omega) (fun e => by have := (h.lt b (.inr (.inr e.symm))).1; omega))
  have hs : w.heap.size ≤ (w'.setCell ⟨m.g, 3, none⟩ v).heap.size := by have := hg.size; simpa using this
  refine ⟨?_, h.ge, ?_, own_keep ho fun b hb => Below.heap_setCell w' _ _ b (hvg b hb), rd_keep h.p hs fun ad e => hk _ (h.pb ad e), h.pb, rd_keep h.t hs fun ad e => hk _ (h.tb ad e), h.tb⟩
  · have hb : Blk w' m.g 72 #[.slice E.At E.t.length E.nt, .slice E.A E.p.length E.c, m.lv, m.fv, .int .i64 s.first] := hgm.trans h.blk
    have := hb.set_ 3 v
    simpa using this
  · exact own_keep h.log fun b hb => (Below.heap_setCell w' ⟨m.g, 3, none⟩ v b (by rintro rfl; exact h.lv_ne hb)).trans (hg.block b (h.log.lt b hb).2 (fun e => h.lf_ne hb e.symm))
theorem Mach.setFirst (h : Mach E w m s) (n : Int) : Mach E (w.setCell ⟨m.g, 4, none⟩ (.int .i64 n)) m { s with first := n } := by
  have hs : w.heap.size ≤ (w.setCell ⟨m.g, 4, none⟩ (.int .i64 n)).heap.size := by simp
  have hk : ∀ b, b < E.base → (w.setCell ⟨m.g, 4, none⟩ (.int .i64 n)).heap[b]? = w.heap[b]? := fun b hb => Below.heap_setCell w ⟨m.g, 4, none⟩ _ b (by have := h.ge; simp; omega)
  refine ⟨?_, h.ge, own_keep h.log fun b hb => Below.heap_setCell w _ _ b (by rintro rfl; exact h.lv_ne hb), own_keep h.flt fun b hb => Below.heap_setCell w _ _ b (by rintro rfl; exact h.fv_ne hb), rd_keep h.p hs fun ad e => hk _ (h.pb ad e), h.pb, rd_keep h.t hs fun ad e => hk _ (h.tb ad e), h.tb⟩
  have := h.blk.set_ 4 (.int .i64 n)
  simpa using this
end
end Go.Proofs.Ytihjakpedbaokaa.K
namespace Go.Proofs.Ytihjakpedbaokaa.K
open Go Go.RowKit

def fl (F : List Flt) (i : Nat) : Flt := F.getD i default
/-- Each fault's context is an older one. -/
def FOk (F : List Flt) : Prop := ∀ i, i < F.length → -1 ≤ (fl F i).ctx ∧ (fl F i).ctx < i
/-- A fault and its contexts. -/
def chainIx (F : List Flt) (f : Int) : List Int := if 0 ≤ f ∧ (fl F f.toNat).ctx < f then f :: chainIx F (fl F f.toNat).ctx else []
  termination_by (f + 1).toNat
  decreasing_by omega
theorem chainIx_yes {F : List Flt} {f : Int} (h : 0 ≤ f) (h2 : (fl F f.toNat).ctx < f) : chainIx F f = f :: chainIx F (fl F f.toNat).ctx := by rw [chainIx, if_pos ⟨h, h2⟩]
theorem chainIx_no {F : List Flt} {f : Int} (h : ¬ 0 ≤ f) : chainIx F f = [] := by rw [chainIx, if_neg (by omega)]
theorem chainIx_len (F : List Flt) : ∀ (m : Nat) (f : Int), (f + 1).toNat = m → (chainIx F f).length ≤ m := by
  intro m
  induction m using Nat.strongRecOn with
  | ind m ih =>
    intro a h
    rw [chainIx]
    split
    · rename_i hc
      have := ih ((fl F a.toNat).ctx + 1).toNat (by omega) _ rfl
      simp only [List.length_cons]; omega
    · simp
theorem chainIx_mem (F : List Flt) : ∀ (m : Nat) (f : Int), (f + 1).toNat = m → ∀ x ∈ chainIx F f, 0 ≤ x ∧ x ≤ f := by
  intro m
  induction m using Nat.strongRecOn with
  | ind m ih =>
    intro a h x hx
    rw [chainIx] at hx
    split at hx
    · rename_i hc
      rcases List.mem_cons.1 hx with rfl | hx
      · omega
      · have := ih ((fl F a.toNat).ctx + 1).toNat (by omega) _ rfl x hx; omega
    · cases hx

set_option maxHeartbeats 1000000 in
set_option maxRecDepth 100000 in
theorem hraise_calls (E : Env) (m : M) (s : St) (cls code : Int) (w : World) (h : Mach E w m s) (hn : s.flt.length ≤ 1099511627776) :
    Calls Try.prog 104 #[.pointer (some ⟨m.g, 3, none⟩), .int .i64 cls, .int .i64 code] w fun e w' => ∃ m', e = .returned (.int .i64 s.flt.length) ∧ Mach E w' m' { s with flt := s.flt ++ [⟨cls, code, -1⟩] } ∧ Step w m w' m' ∧ m'.g = m.g := by
  obtain ⟨g, lv, fv⟩ := m
  have H := Lib.hid h
  have c3 : w.cell? ⟨g, 3, none⟩ = some fv := by have := h.blk.cell 3; simpa using this
  have hb : E.base ≤ w.heap.size := by have := h.ge; have := h.blk.lt; simp at *; omega
  have ho : Own encF 5 59 E.base w fv s.flt := h.flt
  have HO := Lib.hid ho
  clear h ho
  have H1 : Hid (Mach E (w.alloc (.cells #[.int .i64 cls, .int .i64 code, .int .i64 (-1), .int .i64 (-1), .bool false] 59)) ⟨g, lv, fv⟩ s) := Lib.hid (H.out.alloc _)
  go_enter Try.func104, Try.ntmps104
  go_wp2_with (at_builtin; (refine wpList_append_elem2 elemFault rfl (.tmp 11) (.tmp 15) rfl (v := fv) rfl (HO.out.alloc _) ⟨cls, code, -1⟩ ⟨w.heap.size, 0, none⟩ 1 rfl rfl (fun j u hj => by match j, hj with | 0, hj => simp [encF] at hj; subst hj; simp [Addr.add] | 1, hj => simp [encF] at hj; subst hj; simp [Addr.add] | 2, hj => simp [encF] at hj; subst hj; simp [Addr.add] | 3, hj => simp [encF] at hj; subst hj; simp [Addr.add] | 4, hj => simp [encF] at hj; subst hj; simp [Addr.add]) (fun u hu => by simp [encF] at hu; rcases hu with rfl | rfl | rfl | rfl | rfl <;> rfl) (by omega) (by omega) (by simp; omega) ?_; intro v1 w2 ho1 hg1 hn1; have HG1 := Lib.hid hg1; have hm2 := hg1.block g H1.out.blk.lt (fun e => H1.out.fv_ne e.symm); have hm3 := Blk.cell (hm2.trans H1.out.blk) 3; have hm4 := Blk.frozen (hm2.trans H1.out.blk) 3; have hm5 : g < w2.heap.size := Blk.lt (hm2.trans H1.out.blk); obtain ⟨A', c', rfl, -, -, -⟩ := ho1.form encF_len; simp only [List.length_append, List.length_cons, List.length_nil, Nat.zero_add] at ho1 hn1; have HO1 := Lib.hid ho1; have HN1 := Lib.hid hn1; simp only [] at hm3; clear ho1 hn1 hg1 hm2))
  go_ret
  exact ⟨⟨g, lv, _⟩, ret_int (by simp), H1.out.setFlt HO1.out HG1.out HN1.out, (((Step.refl w ⟨g, lv, fv⟩).alloc _).grownF HG1.out HN1.out).setCell (.inr (.inl rfl)) _, rfl⟩
end Go.Proofs.Ytihjakpedbaokaa.K
namespace Go.Proofs.Ytihjakpedbaokaa.K
open Go Go.RowKit

theorem idxFrom_nonneg {n : Nat} {p : Nat → Bool} : ∀ (d k : Nat), n - k = d → (0 ≤ idxFrom n p k ↔ ∃ i, k ≤ i ∧ i < n ∧ p i = true) := by
  intro d
  induction d with
  | zero => intro k h; rw [idxFrom_end (by omega)]; exact ⟨fun h => absurd h (by omega), fun ⟨i, h1, h2, _⟩ => by omega⟩
  | succ d ih =>
    intro k h
    cases hp : p k with
    | true => rw [idxFrom_hit (by omega) hp]; exact ⟨fun _ => ⟨k, Nat.le_refl _, by omega, hp⟩, fun _ => by omega⟩
    | false =>
      rw [idxFrom_miss (by omega) hp, ih (k + 1) (by omega)]
      constructor
      · rintro ⟨i, h1, h2, h3⟩; exact ⟨i, by omega, h2, h3⟩
      · rintro ⟨i, h1, h2, h3⟩
        rcases Nat.lt_or_eq_of_le h1 with h1 | rfl
        · exact ⟨i, h1, h2, h3⟩
        · rw [hp] at h3; cases h3
theorem hasI_iff {l : List Int} {x : Int} : hasI l x = true ↔ x ∈ l := by
  unfold hasI indexOf
  rw [decide_eq_true_iff, idxFrom_nonneg _ _ rfl]
  constructor
  · rintro ⟨i, -, h2, h3⟩
    rw [eq_of_beq h3]
    simp [List.getElem?_eq_getElem h2]
  · intro h
    obtain ⟨i, hi, e⟩ := List.getElem_of_mem h
    exact ⟨i, Nat.zero_le _, hi, by simp [List.getElem?_eq_getElem hi, e]⟩
theorem hasI_no {l : List Int} {x : Int} (h : ∀ y ∈ l, x < y) : hasI l x = false := Bool.eq_false_iff.mpr fun h2 => by
  have := h x (hasI_iff.1 h2); omega

section
variable {w : World} {A : Option Addr} {F : List Flt}
theorem fl_get {i : Nat} (h : i < F.length) : F[i]? = some (fl F i) := by simp [fl, List.getElem?_eq_getElem h]
/-- A fault's cells, as the walk spells them. -/
theorem Rd.flt (h : Rd encF 5 w A F) {i : Nat} (hi : i < F.length) : ∃ ad, A = some ad ∧ ad.block < w.heap.size ∧ w.cell? (ad.add (i * 5)) = some (.int .i64 (fl F i).cls) ∧
    w.cell? ⟨(ad.add (i * 5)).block, (ad.add (i * 5)).off + 1, none⟩ = some (.int .i64 (fl F i).code) ∧ w.cell? ⟨(ad.add (i * 5)).block, (ad.add (i * 5)).off + 2, none⟩ = some (.int .i64 (-1)) ∧
    w.cell? ⟨(ad.add (i * 5)).block, (ad.add (i * 5)).off + 3, none⟩ = some (.int .i64 (fl F i).ctx) ∧ w.cell? ⟨(ad.add (i * 5)).block, (ad.add (i * 5)).off + 4, none⟩ = some (.bool false) := by
  obtain ⟨ad, e, hl, hc⟩ := h i _ (fl_get hi)
  exact ⟨ad, e, hl, hc 0 _ rfl, by rw [add_field _ _ 1 (by omega)]; exact hc 1 _ rfl, by rw [add_field _ _ 2 (by omega)]; exact hc 2 _ rfl, by rw [add_field _ _ 3 (by omega)]; exact hc 3 _ rfl, by rw [add_field _ _ 4 (by omega)]; exact hc 4 _ rfl⟩
end

set_option maxHeartbeats 400000 in
theorem ctx_fn (F : List Flt) (A : Option Addr) (c : Nat) (i : Nat) (b : Nat) (w : World) (hF : Rd encF 5 w A F) (hi : i < F.length) (hc : w.cell? ⟨b, 0, none⟩ = some (.slice A F.length c)) :
    Calls Try.prog 123 #[.int .i64 i, .pointer (some ⟨b, 0, none⟩)] w fun e w' => e = .returned (.int .i64 (fl F i).ctx) ∧ Below w.heap.size w w' := by
  obtain ⟨ad, rfl, hbl, -, -, -, h3, -⟩ := hF.flt hi
  obtain ⟨x, hx⟩ : ∃ x, x = (fl F i).ctx := ⟨_, rfl⟩
  rw [← hx] at h3 ⊢
  clear hF hx
  go_enter Try.func123, Try.ntmps123
  go_wp2
  go_ret
  exact ⟨rfl, Below.refl _ _⟩

set_option maxHeartbeats 400000 in
theorem clipI_calls (A : Option Addr) (n c : Nat) (w : World) (hc : n ≤ c) :
    Calls Try.prog 51 #[.slice A n c] w fun e w' => e = .returned (.slice A n n) ∧ Below w.heap.size w w' := by
  go_enter Try.func51, Try.ntmps51
  go_wp2
  go_ret
  exact ⟨rfl, Below.refl _ _⟩

theorem len_of_appendI {l r m : List Int} (h : l ++ r = m) : l.length ≤ m.length := by rw [← h]; simp
set_option maxHeartbeats 1000000 in
set_option maxRecDepth 100000 in
theorem walk_calls (F : List Flt) (f : Int) (g : FuncId) (cap : Array Value) (w : World) (hF : FOk F) (hn : F.length ≤ 1099511627776) (hf : -1 ≤ f) (hf2 : f < F.length)
    (eg : ∀ args w, (callFunc g args).run Try.prog w = .ok (.enter g args) w)
    (hp : ∀ (x : Ext w) (k : Nat), k < F.length → Calls Try.prog g (#[.int .i64 k] ++ cap) x.1 fun e w' => e = .returned (.int .i64 (fl F k).ctx) ∧ Below x.1.heap.size x.1 w') :
    Calls Try.prog 122 #[.int .i64 f, .func (.func g) #[] cap] w (RetI w (chainIx F f)) := by
  have HP := Lib.hid hp
  have HF := Lib.hid hF
  have hcl := chainIx_len F _ f rfl
  clear hp hF
  go_enter Try.func122, Try.ntmps122
  go_wp2
  go_loopw [0, 5] (fun fv v w' => ∃ (x : Int) (l : List Int), -1 ≤ x ∧ x < F.length ∧ fv = .int .i64 x ∧ Hid (l ++ chainIx F x = chainIx F f) ∧ Hid (∀ y ∈ l, x < y) ∧ Hid (Own encI 1 3 w.heap.size w' v l) ∧ Hid (Below w.heap.size w w')) (fun fv _ _ => (intOf fv + 1).toNat)
  case atStart => exact ⟨f, [], hf, hf2, rfl, Lib.hid rfl, Lib.hid (fun y hy => by cases hy), Lib.hid (Own.lit w #[] [] (Nat.le_refl _) (by simp [maxLen]) encI_len rfl), Lib.hid (below_alloc (Below.refl _ _) _)⟩
  case round =>
    obtain ⟨x, l, hx1, hx2, rfl, hb, hl, HO, HX⟩ := hrel
    have hll := len_of_appendI hb.out
    obtain ⟨A', c', rfl, hr, -, hlc⟩ := HO.out.form encI_len
    have HR := Lib.hid hr
    clear hr
    by_cases h0 : 0 ≤ x
    · obtain ⟨k, rfl⟩ : ∃ k : Nat, x = k := ⟨x.toNat, by omega⟩
      have hk : k < F.length := by omega
      have hno : Hid (hasI l (k : Int) = false) := Lib.hid (hasI_no hl.out)
      obtain ⟨d, hd⟩ : ∃ d, d = (fl F k).ctx := ⟨_, rfl⟩
      have hdk := HF.out k hk
      rw [← hd] at hdk
      have HE : Hid (chainIx F (k : Int) = (k : Int) :: chainIx F d) := Lib.hid (by rw [chainIx_yes (f := (k : Int)) (by omega) (by rw [Int.toNat_natCast, ← hd]; omega), Int.toNat_natCast, ← hd])
      have HP2 : Hid (∀ y : Ext w, Calls Try.prog g (#[.int .i64 (k : Int)] ++ cap) y.1 fun e w' => e = .returned (.int .i64 d) ∧ Below y.1.heap.size y.1 w') := Lib.hid fun y => by have := HP.out y k hk; rw [← hd] at this; exact this
      clear hd hx1 hx2 h0
      go_wp2_with (first
        | (go_at_call 101; refine (calls_ext0 (W := wr) (hasI_calls l A' c' k wr HR.out (by omega))).mono ?_; rw [hno.out]; rintro e w1 ⟨rfl, y, rfl⟩)
        | (at_builtin; refine wpList_append_elem elemInt rfl (.tmp 18) (.tmp 20) rfl (v := .slice A' l.length c') rfl ((HO.out.ext y).alloc _) (k : Int) ⟨y.1.heap.size, 0, none⟩ 1 rfl rfl (fun j u hj => by match j, hj with | 0, hj => simp [encI] at hj; subst hj; simp [Addr.add]) (fun u hu => by simp [encI] at hu; subst hu; rfl) (by omega) (by omega) (by have := HX.out.size; have := y.2.size; simp; omega) ?_; intro v1 w2 ho1 hg1; have hb2 := own_below (below_alloc (below_trans HX.out y.2) _) ((HO.out.ext y).alloc _) hg1 (by have := HX.out.size; have := y.2.size; simp; omega); have HO1 := Lib.hid ho1; clear ho1 hg1)
        | (refine (calls_ext0 (W := w2) (HP2.out ⟨w2, hb2⟩)).mono ?_; rintro e w3 ⟨rfl, y3, rfl⟩))
      go_roundw
      case rel => exact ⟨d, l ++ [(k : Int)], by omega, by omega, rfl, Lib.hid (by rw [← hb.out, HE.out]; simp), Lib.hid (fun y hy => by rcases List.mem_append.1 hy with hy | hy; have := hl.out y hy; omega; simp at hy; omega), Lib.hid (HO1.out.ext y3), Lib.hid (below_trans hb2 y3.2)⟩
      case measure => simp [intOf]; omega
    · have h0' : decide ((0 : Int) ≤ x) = false := decide_eq_false h0
      have HC : chainIx F x = [] := chainIx_no h0
      have hb' := hb.out
      rw [HC, List.append_nil] at hb'
      have HB := Lib.hid hb'
      clear hb' HC h0
      go_wp2_with (go_at_call 51; refine (calls_ext0 (W := wr) (clipI_calls A' l.length c' wr hlc)).mono ?_; rintro e w1 ⟨rfl, y, rfl⟩)
      go_ret
      exact retI_of_clip (by rw [← HB.out]; exact HO.out.ext y) (by rw [← HB.out]) (below_trans HX.out y.2)

set_option maxHeartbeats 1000000 in
theorem contexts_calls (F : List Flt) (A : Option Addr) (c : Nat) (f : Int) (w : World) (hA : Rd encF 5 w A F) (hF : FOk F) (hn : F.length ≤ 1099511627776) (hf : -1 ≤ f) (hf2 : f < F.length) :
    Calls Try.prog 110 #[.agg #[.slice A F.length c], .int .i64 f] w (RetI w (chainIx F f)) := by
  have HA := Lib.hid hA
  have HF := Lib.hid hF
  clear hA hF
  have HP : Hid (∀ (x : Ext (w.alloc (.cells #[.slice A F.length c] 32))) (k : Nat), k < F.length → Calls Try.prog 123 (#[.int .i64 k] ++ #[.pointer (some ⟨w.heap.size, 0, none⟩)]) x.1 fun e w' => e = .returned (.int .i64 (fl F k).ctx) ∧ Below x.1.heap.size x.1 w') :=
    Lib.hid fun x k hk => ctx_fn F A c k w.heap.size x.1 ((HA.out.alloc _).ext x) hk (x.cell (by simp))
  go_enter Try.func110, Try.ntmps110
  go_wp2_with (go_at_call 122; refine (walk_calls F f 123 #[.pointer (some ⟨w.heap.size, 0, none⟩)] (w.alloc (.cells #[.slice A F.length c] 32)) HF.out hn hf hf2 (enters_of Try.func123 (by kernel_rfl) rfl) HP.out).mono ?_; rintro e w1 ⟨B, c1, rfl, hr, hfr, hlc, hb⟩)
  go_ret
  exact ⟨B, c1, rfl, hr, fun ad e => by have := hfr ad e; simp at this; omega, hlc, below_trans (below_alloc (Below.refl _ _) _) hb⟩

/-- The heap with a fault's context turned. -/
def setCtx (F : List Flt) (f : Nat) (c : Int) : List Flt := F.set f { fl F f with ctx := c }
end Go.Proofs.Ytihjakpedbaokaa.K
namespace Go.Proofs.Ytihjakpedbaokaa.K
open Go Go.RowKit

theorem flatF_len : ∀ F : List Flt, (F.flatMap encF).length = F.length * 5
  | [] => rfl
  | f :: F => by rw [List.flatMap_cons, List.length_append, encF_len, flatF_len F, List.length_cons]; omega
theorem chainIx_append (F G : List Flt) : ∀ (m : Nat) (f : Int), (f + 1).toNat = m → f < F.length → chainIx (F ++ G) f = chainIx F f := by
  intro m
  induction m using Nat.strongRecOn with
  | ind m ih =>
    intro f h hl
    have e : 0 ≤ f → fl (F ++ G) f.toNat = fl F f.toNat := fun h0 => by unfold fl; simp [List.getElem?_append_left (show f.toNat < F.length by omega)]
    by_cases h0 : 0 ≤ f ∧ (fl F f.toNat).ctx < f
    · rw [chainIx_yes h0.1 h0.2, chainIx_yes h0.1 (by rw [e h0.1]; exact h0.2), e h0.1, ih _ (by omega) _ rfl (by omega)]
    · by_cases h1 : 0 ≤ f
      · rw [show chainIx (F ++ G) f = [] from by rw [chainIx, if_neg (by rw [e h1]; exact h0)], show chainIx F f = [] from by rw [chainIx, if_neg h0]]
      · rw [chainIx_no h1, chainIx_no h1]
theorem FOk.append {F : List Flt} (h : FOk F) {x : Flt} (h1 : -1 ≤ x.ctx) (h2 : x.ctx < F.length) : FOk (F ++ [x]) := by
  intro i hi
  rw [List.length_append] at hi
  simp at hi
  by_cases hl : i < F.length
  · have : fl (F ++ [x]) i = fl F i := by unfold fl; simp [List.getElem?_append_left hl]
    rw [this]; exact h i hl
  · have he : i = F.length := by omega
    subst he
    have : fl (F ++ [x]) F.length = x := by unfold fl; simp
    rw [this]; exact ⟨h1, h2⟩
theorem fl_last (F : List Flt) (x : Flt) : fl (F ++ [x]) F.length = x := by unfold fl; simp

theorem Mach.setCtx {E : Env} {w : World} {g : Nat} {lv : Value} {b n cap : Nat} {s : St} {F : List Flt} {cls code a : Int} (h : Mach E w ⟨g, lv, .slice (some ⟨b, 0, none⟩) n cap⟩ s) (hs : s.flt = F ++ [⟨cls, code, a⟩]) (c : Int) :
    Mach E (w.setCell ⟨b, F.length * 5 + 3, none⟩ (.int .i64 c)) ⟨g, lv, .slice (some ⟨b, 0, none⟩) n cap⟩ { s with flt := F ++ [⟨cls, code, c⟩] } := by
  have hn : n = s.flt.length := (h.flt.rd encF_len).2.1
  have hbg : b ≠ g := fun e => h.fv_ne (congrArg some e)
  have hl : lv.ownBlock ≠ some b := fun e => h.lf_ne e rfl
  have hbb : E.base ≤ b := (h.flt.lt b rfl).1
  have hk : ∀ i, i ≠ b → (w.setCell ⟨b, F.length * 5 + 3, none⟩ (.int .i64 c)).heap[i]? = w.heap[i]? := fun i hi => Below.heap_setCell w _ _ i hi
  have ho := h.flt
  simp only [] at ho
  rw [hs] at ho
  have ho2 : w.ownsRow E.base 59 5 (.slice (some ⟨b, 0, none⟩) (F ++ [(⟨cls, code, a⟩ : Flt)]).length cap) (F ++ [(⟨cls, code, a⟩ : Flt)]).length ((F ++ [(⟨cls, code, a⟩ : Flt)]).flatMap encF) := by rw [hn, hs] at ho; exact ho
  have hst := (World.ownsRow.stored ho2 (F.length * 5 + 3) (.int .i64 c)).1
  have he : ((F ++ [(⟨cls, code, a⟩ : Flt)]).flatMap encF).set (F.length * 5 + 3) (.int .i64 c) = (F ++ [(⟨cls, code, c⟩ : Flt)]).flatMap encF := by
    rw [List.flatMap_append, List.flatMap_append, List.set_append, if_neg (by rw [flatF_len]; omega), flatF_len, show F.length * 5 + 3 - F.length * 5 = 3 from by omega]
    rfl
  rw [he] at hst
  refine ⟨(hk g (Ne.symm hbg)).trans h.blk, h.ge, own_keep h.log fun i hi => hk i (fun e => hl (by rw [← e]; exact hi)), ?_, rd_keep h.p (by simp) fun ad e => hk _ (by have := h.pb ad e; omega), h.pb, rd_keep h.t (by simp) fun ad e => hk _ (by have := h.tb ad e; omega), h.tb⟩
  unfold Own
  rw [hn, hs]
  simpa using hst

set_option maxHeartbeats 1000000 in
set_option maxRecDepth 100000 in
theorem while_calls (E : Env) (g : Nat) (lv fv : Value) (s : St) (F : List Flt) (cls code : Int) (hd : Nat) (w : World) (h : Mach E w ⟨g, lv, fv⟩ s) (hs : s.flt = F ++ [⟨cls, code, -1⟩]) (hF : FOk F) (hhd : hd < F.length) (hn : F.length ≤ 1099511627775) :
    Calls Try.prog 105 #[.pointer (some ⟨g, 3, none⟩), .int .i64 F.length, .int .i64 hd] w fun e w' => e = .returned (.tuple #[]) ∧ Mach E w' ⟨g, lv, fv⟩ { s with flt := F ++ [⟨cls, code, hd⟩] } ∧ Step w ⟨g, lv, fv⟩ w' ⟨g, lv, fv⟩ := by
  obtain ⟨F', hF'⟩ : ∃ F', F' = F ++ [(⟨cls, code, -1⟩ : Flt)] := ⟨_, rfl⟩
  have hlen : F'.length = F.length + 1 := by rw [hF']; simp
  have ho : Own encF 5 59 E.base w fv F' := by have := h.flt; rw [hs, ← hF'] at this; exact this
  obtain ⟨b, cap, hfv⟩ : ∃ b cap, fv = .slice (some ⟨b, 0, none⟩) F'.length cap := by
    obtain ⟨_, h2⟩ := ho
    rcases h2 with ⟨_, hz⟩ | ⟨g', cap, cur, hv, _⟩
    · omega
    · exact ⟨g', cap, hv⟩
  subst hfv
  obtain ⟨hR, -, -⟩ := ho.rd encF_len
  have hFO : FOk F' := by rw [hF']; exact hF.append (by show (-1 : Int) ≤ -1; omega) (by show (-1 : Int) < _; omega)
  have hch : ∀ x ∈ chainIx F' (hd : Int), 0 ≤ x ∧ x ≤ hd := chainIx_mem F' _ _ rfl
  have hcl := chainIx_len F' _ (hd : Int) rfl
  have HFO := Lib.hid hFO
  have HR := Lib.hid hR
  have H := Lib.hid h
  have HS := Lib.hid hs
  have HF' := Lib.hid hF'
  have HCH := Lib.hid hch
  obtain ⟨ad, had⟩ : ∃ ad : Addr, ad = ⟨b, 0, none⟩ := ⟨_, rfl⟩
  have c3 : ∀ y : Ext w, y.1.cell? ⟨g, 3, none⟩ = some (.slice (some ad) F'.length cap) := fun y => y.cell (by have := h.blk.cell 3; rw [had]; simpa using this)
  have hgl : g < w.heap.size := h.blk.lt
  have HRR : Hid (∀ y : Ext w, Rd encF 5 y.1 (some ad) F') := Lib.hid fun y => by rw [had]; exact hR.ext y
  have c3w : w.cell? ⟨g, 3, none⟩ = some (.slice (some ad) F'.length cap) := c3 ⟨w, Below.refl _ _⟩
  have HAD := Lib.hid had
  have hfz : ∀ (y : Ext w) (j : Nat), y.1.frozen? ⟨b, j, none⟩ = false := fun y j => by obtain ⟨cs, hc⟩ := own_type (b := b) (h.ext y).flt rfl; exact Blk.frozen hc j
  have HFZ := Lib.hid hfz
  have hlt1 : F.length < F'.length := by omega
  have HL := Lib.hid hlen
  have hne : ((F.length : Int) == (hd : Int)) = false := by rw [beq_eq_false_iff_ne]; omega
  clear h hs hF hF' hR hFO hch ho had hfz hlen
  go_enter Try.func105, Try.ntmps105
  go_wp2_with (go_at_call 110; (refine (contexts_calls F' (some ad) cap (hd : Int) w (HRR.out ⟨w, Below.refl _ _⟩) HFO.out (by have := HL.out; omega) (by omega) (by have := HL.out; omega)).mono ?_; rintro e w1 ⟨B, c1, rfl, hr, hfr, hlc, hb1⟩; have HB := Lib.hid hr; have HB1 := Lib.hid hb1; have c3w1 : w1.cell? ⟨g, 3, none⟩ = some (.slice (some ad) F'.length cap) := c3 ⟨w1, hb1⟩; have hgl1 : g < w1.heap.size := (⟨w1, hb1⟩ : Ext w).lt hgl; clear hr hfr hb1))
  go_loopw [17] (fun v w' => ∃ k : Nat, k ≤ (chainIx F' (hd : Int)).length ∧ v = .int .i64 k ∧ w' = w1) (fun v _ => (chainIx F' (hd : Int)).length - (intOf v).toNat)
  case atStart => exact ⟨0, Nat.zero_le _, rfl, rfl⟩
  case round =>
    obtain ⟨k, hk, rfl, rfl⟩ := hrel
    by_cases hlt : k < (chainIx F' (hd : Int)).length
    · obtain ⟨bd, rfl, hbd, gx⟩ := HB.out.int hlt
      obtain ⟨x, hx⟩ : ∃ x, x = (chainIx F' (hd : Int)).getD k 0 := ⟨_, rfl⟩
      have hxm := HCH.out x (by rw [hx]; simp [List.getElem?_eq_getElem hlt])
      rw [← hx] at gx
      obtain ⟨i, rfl⟩ : ∃ i : Nat, x = i := ⟨x.toNat, by omega⟩
      have hi : i < F'.length := by have := HL.out; omega
      obtain ⟨_, e, had2, -, -, -, h3, -⟩ := (HRR.out ⟨wr, HB1.out⟩).flt hi
      cases e
      obtain ⟨d, hd2⟩ : ∃ d, d = (fl F' i).ctx := ⟨_, rfl⟩
      have hdi := HFO.out i hi
      rw [← hd2] at h3 hdi
      simp only [] at had2 h3
      have hne2 : (d == (F.length : Int)) = false := by rw [beq_eq_false_iff_ne]; omega
      clear hx hd2
      go_wp2
      go_roundw
      case rel => exact ⟨k + 1, hlt, by go_num, by first | rfl | trivial⟩
      case measure => simp [intOf]; omega
    · obtain ⟨_, e, had2, -, -, -, h3, -⟩ := (HRR.out ⟨wr, HB1.out⟩).flt (i := F.length) (by omega)
      cases e
      simp only [] at had2 h3
      have hfz : wr.frozen? ⟨(ad.add (F.length * 5)).block, (ad.add (F.length * 5)).off + 3, none⟩ = false := by
        rw [HAD.out]
        have := HFZ.out ⟨wr, HB1.out⟩ (F.length * 5 + 3)
        unfold Addr.add
        split
        · rename_i h0; simpa [h0] using this
        · simpa using this
      go_wp2
      go_end0
      have e : (⟨(ad.add (F.length * 5)).block, (ad.add (F.length * 5)).off + 3, none⟩ : Addr) = ⟨b, F.length * 5 + 3, none⟩ := by
        rw [add_field _ _ 3 (by omega), HAD.out]; simp [Addr.add]
      rw [e]
      exact ⟨rfl, Mach.setCtx (H.out.ext ⟨wr, HB1.out⟩) HS.out hd, (Step.of_below HB1.out).setCell (.inr (.inr (.inr rfl))) _⟩

/-- The faults with one more: raised while another one is handled, or none. -/
def raiseF (F : List Flt) (cls code : Int) (hd : Int) : List Flt := F ++ [⟨cls, code, if 0 ≤ hd then hd else -1⟩]
set_option maxHeartbeats 1000000 in
set_option maxRecDepth 100000 in
theorem raise_calls (E : Env) (m : M) (s : St) (cls code : Int) (hd : Int) (w : World) (h : Mach E w m s) (hF : FOk s.flt) (hhd : hd < s.flt.length) (hn : s.flt.length ≤ 1099511627775) :
    Calls Try.prog 89 #[.pointer (some ⟨m.g, 0, none⟩), .int .i64 cls, .int .i64 code, .int .i64 hd] w fun e w' => ∃ m', e = .returned (.int .i64 s.flt.length) ∧ Mach E w' m' { s with flt := raiseF s.flt cls code hd } ∧ Step w m w' m' ∧ m'.g = m.g := by
  obtain ⟨g, lv, fv⟩ := m
  have H := Lib.hid h
  have HF := Lib.hid hF
  have hgl : g < w.heap.size := h.blk.lt
  clear h hF
  by_cases h0 : 0 ≤ hd
  · obtain ⟨k, rfl⟩ : ∃ k : Nat, hd = k := ⟨hd.toNat, by omega⟩
    go_enter Try.func89, Try.ntmps89
    go_wp2_with (first
      | (go_at_call 104; (refine (hraise_calls E ⟨g, lv, fv⟩ s cls code w H.out (by omega)).mono ?_; rintro e w1 ⟨⟨g1, lv1, fv1⟩, rfl, hm1, hs1, hg1⟩; simp only [] at hg1; replace hg1 := hg1.symm; subst hg1; have HM1 := Lib.hid hm1; have HS1 := Lib.hid hs1; have hgl1 : g < w1.heap.size := hm1.blk.lt; clear hm1 hs1))
      | (go_at_call 105; (refine (while_calls E g lv1 fv1 _ s.flt cls code k w1 HM1.out rfl HF.out (by omega) (by omega)).mono ?_; rintro e w2 ⟨rfl, hm2, hs2⟩; have HM2 := Lib.hid hm2; have HS2 := Lib.hid hs2; clear hm2 hs2)))
    go_ret
    exact ⟨⟨g, lv1, fv1⟩, rfl, by unfold raiseF; rw [if_pos (by omega)]; exact HM2.out, HS1.out.trans HS2.out, rfl⟩
  · go_enter Try.func89, Try.ntmps89
    go_wp2_with (go_at_call 104; (refine (hraise_calls E ⟨g, lv, fv⟩ s cls code w H.out (by omega)).mono ?_; rintro e w1 ⟨⟨g1, lv1, fv1⟩, rfl, hm1, hs1, hg1⟩; simp only [] at hg1; replace hg1 := hg1.symm; subst hg1; have HM1 := Lib.hid hm1; have HS1 := Lib.hid hs1; have hgl1 : g < w1.heap.size := hm1.blk.lt; clear hm1 hs1))
    go_ret
    exact ⟨⟨g, lv1, fv1⟩, rfl, by unfold raiseF; rw [if_neg (by omega)]; exact HM1.out, HS1.out, rfl⟩
end Go.Proofs.Ytihjakpedbaokaa.K
namespace Go.Proofs.Ytihjakpedbaokaa.K

/-- How something ends. -/
structure En where
  e : Int
  v : Int
abbrev Ru := Nat → Int → St → En × St

def markR (p : Prg) (i : Nat) (s : St) : St := if jumps (ln p i).kind = true ∧ s.first < 0 then { s with first := i } else s
/-- A loop's rounds. -/
def loopR (f : St → En × St) : Nat → St → En × St
  | 0, s => (⟨0, 0⟩, s)
  | n + 1, s =>
    let x := f s
    if x.1.e = 1 ∨ x.1.e = 2 then x else if x.1.e = 3 then (⟨0, 0⟩, x.2) else loopR f n x.2
def tell (s : St) (n : Int) : St := { s with log := s.log ++ [n] }
def toss (s : St) (cls code hd : Int) : St := { s with flt := raiseF s.flt cls code hd }
/-- impl: machine.line behind its mark. -/
def lineGo (p : Prg) (B : Ru) (i : Nat) (hd : Int) (s : St) : En × St :=
  let l := ln p i
  if l.kind = 1 then (⟨0, 0⟩, tell s l.a)
  else if l.kind = 2 then (⟨2, s.flt.length⟩, toss s l.a l.b hd)
  else if l.kind = 3 then (if hd < 0 then (⟨2, s.flt.length⟩, toss s 0 0 (-1)) else (⟨2, hd⟩, s))
  else if l.kind = 4 then (⟨1, l.a⟩, s)
  else if l.kind = 5 then (⟨3, 0⟩, s)
  else if l.kind = 6 then (⟨4, 0⟩, s)
  else if l.kind = 11 then
    let x := B i hd (tell s (100 + l.a))
    (if x.1.e = 2 ∧ l.b = 1 then ⟨0, 0⟩ else x.1, tell x.2 (200 + l.a))
  else if l.kind = 12 then loopR (B i hd) l.a.toNat s
  else (⟨0, 0⟩, s)
def lineR (p : Prg) (B : Ru) (i : Nat) (hd : Int) (s : St) : En × St := lineGo p B i hd (markR p i s)
/-- One more line of a try: how it ends, how its block ended, what is held. -/
def partR (T : Tree) (p : Prg) (B : Ru) (hd : Int) (x : En × En × St) (k : Nat) : En × En × St :=
  let l := ln p k
  if l.kind = 8 then
    if x.2.1.e = 2 ∧ isc T (fl x.2.2.flt x.2.1.v.toNat).cls l.a = true then let y := B k x.2.1.v x.2.2; (y.1, ⟨-1, 0⟩, y.2) else x
  else if l.kind = 9 then
    if x.2.1.e = 0 then let y := B k hd x.2.2; (y.1, x.2.1, y.2) else x
  else if l.kind = 10 then
    let y := B k (if x.1.e = 2 then x.1.v else hd) x.2.2
    (if y.1.e ≠ 0 then y.1 else x.1, x.2.1, y.2)
  else x
def tryGo (T : Tree) (p : Prg) (B : Ru) (hd : Int) (l : List Nat) (x : En × En × St) : En × En × St := l.foldl (partR T p B hd) x
def tryR (T : Tree) (p : Prg) (B : Ru) (l : List Nat) (hd : Int) (s : St) : En × St :=
  let x := B (l.getD 0 0) hd s
  let y := tryGo T p B hd (l.drop 1) (x.1, x.1, x.2)
  (y.1, y.2.2)
def stepR (T : Tree) (p : Prg) (B : Ru) (i : Nat) (hd : Int) (s : St) : En × St :=
  if (ln p i).kind = 7 then tryR T p B (tryFrom p i) hd s else lineR p B i hd s
def nextR (p : Prg) (i : Nat) : Nat := if (ln p i).kind = 7 then endOf p ((tryFrom p i).getD ((tryFrom p i).length - 1) 0) else endOf p i
theorem tryFrom_ge (p : Prg) (i : Nat) : ∀ x ∈ tryFrom p i, i ≤ x := by
  intro x hx
  rcases List.mem_cons.1 hx with rfl | hx
  · exact Nat.le_refl _
  · have := (tryRest_mem p _ _ _ rfl x hx).1; have := endOf_gt p i; omega
theorem nextR_gt (p : Prg) (i : Nat) : i < nextR p i := by
  unfold nextR
  split
  · have h1 : 0 < (tryFrom p i).length := by unfold tryFrom; simp
    have := tryFrom_ge p i ((tryFrom p i).getD ((tryFrom p i).length - 1) 0) (by simp [List.getElem?_eq_getElem (show (tryFrom p i).length - 1 < (tryFrom p i).length by omega)])
    have := endOf_gt p ((tryFrom p i).getD ((tryFrom p i).length - 1) 0)
    omega
  · exact endOf_gt p i
def linesR (T : Tree) (p : Prg) (B : Ru) (to i : Nat) (hd : Int) (s : St) : En × St :=
  if i < to then
    let x := stepR T p B i hd s
    if x.1.e ≠ 0 then x else linesR T p B to (nextR p i) hd x.2
  else (⟨0, 0⟩, s)
  termination_by to - i
  decreasing_by have := nextR_gt p i; omega
def blockR (T : Tree) (p : Prg) : Nat → Ru
  | 0, _, _, s => (⟨0, 0⟩, s)
  | n + 1, i, hd, s => linesR T p (blockR T p n) (endOf p i) (i + 1) hd s

/-! ### what is kept -/
structure SOk (nt : Nat) (s : St) : Prop where
  ctx : FOk s.flt
  cls : ∀ i, i < s.flt.length → hasC nt (fl s.flt i).cls = true
structure Grow (s s' : St) : Prop where
  log : s.log <+: s'.log
  flt : s.flt <+: s'.flt
theorem Grow.refl (s : St) : Grow s s := ⟨List.prefix_refl _, List.prefix_refl _⟩
theorem Grow.trans {a b c : St} (h : Grow a b) (k : Grow b c) : Grow a c := ⟨h.log.trans k.log, h.flt.trans k.flt⟩
def EnOk (s : St) (e : En) : Prop := e.e = 2 → 0 ≤ e.v ∧ e.v < s.flt.length
theorem EnOk.grow {s s' : St} {e : En} (h : EnOk s e) (g : Grow s s') : EnOk s' e := fun h2 => by have := h h2; have := g.flt.length_le; omega
/-- A runner keeps the state in order. -/
def Good (nt : Nat) (s : St) (x : En × St) : Prop := SOk nt x.2 ∧ Grow s x.2 ∧ EnOk x.2 x.1
def GoodR (nt : Nat) (B : Ru) : Prop := ∀ (i : Nat) (hd : Int) (s : St), SOk nt s → -1 ≤ hd → hd < s.flt.length → Good nt s (B i hd s)

theorem SOk.tell {nt : Nat} {s : St} (h : SOk nt s) (n : Int) : SOk nt (tell s n) := ⟨h.ctx, h.cls⟩
theorem SOk.mark {nt : Nat} {s : St} (h : SOk nt s) (p : Prg) (i : Nat) : SOk nt (markR p i s) := by unfold markR; split; exact ⟨h.ctx, h.cls⟩; exact h
theorem grow_tell (s : St) (n : Int) : Grow s (tell s n) := ⟨List.prefix_append _ _, List.prefix_refl _⟩
theorem grow_mark (p : Prg) (i : Nat) (s : St) : Grow s (markR p i s) := by unfold markR; split <;> exact ⟨List.prefix_refl _, List.prefix_refl _⟩
theorem mark_flt (p : Prg) (i : Nat) (s : St) : (markR p i s).flt = s.flt := by unfold markR; split <;> rfl
theorem mark_log (p : Prg) (i : Nat) (s : St) : (markR p i s).log = s.log := by unfold markR; split <;> rfl
theorem SOk.toss {nt : Nat} {s : St} (h : SOk nt s) {cls code hd : Int} (hc : hasC nt cls = true) (h2 : hd < s.flt.length) : SOk nt (toss s cls code hd) := by
  refine ⟨h.ctx.append (x := ⟨cls, code, if 0 ≤ hd then hd else -1⟩) ?_ ?_, ?_⟩
  · show -1 ≤ if 0 ≤ hd then hd else -1
    split <;> omega
  · show (if 0 ≤ hd then hd else -1) < _
    split <;> omega
  · intro i hi
    have hi' : i < s.flt.length + 1 := by have : (K.toss s cls code hd).flt.length = s.flt.length + 1 := by simp [K.toss, raiseF]
                                          omega
    by_cases hl : i < s.flt.length
    · have : fl (K.toss s cls code hd).flt i = fl s.flt i := by unfold fl K.toss raiseF; simp [List.getElem?_append_left hl]
      rw [this]; exact h.cls i hl
    · have he : i = s.flt.length := by omega
      subst he
      have : fl (K.toss s cls code hd).flt s.flt.length = ⟨cls, code, if 0 ≤ hd then hd else -1⟩ := fl_last _ _
      rw [this]; exact hc
theorem grow_toss (s : St) (cls code hd : Int) : Grow s (toss s cls code hd) := ⟨List.prefix_refl _, List.prefix_append _ _⟩
theorem toss_len (s : St) (cls code hd : Int) : (toss s cls code hd).flt.length = s.flt.length + 1 := by simp [toss, raiseF]

section
variable {nt : Nat} {T : Tree} {p : Prg} {B : Ru}
theorem good_loop {f : St → En × St} {hd : Int} (hf : ∀ s, SOk nt s → hd < s.flt.length → Good nt s (f s)) : ∀ (n : Nat) (s : St), SOk nt s → hd < s.flt.length → Good nt s (loopR f n s)
  | 0, s, h, _ => ⟨h, Grow.refl _, fun h2 => by cases h2⟩
  | n + 1, s, h, h2 => by
    have g := hf s h h2
    unfold loopR
    simp only []
    split
    · exact g
    · split
      · exact ⟨g.1, g.2.1, fun h2 => by cases h2⟩
      · have := good_loop hf n (f s).2 g.1 (by have := g.2.1.flt.length_le; omega)
        exact ⟨this.1, g.2.1.trans this.2.1, this.2.2⟩
theorem good_lineGo (hB : GoodR nt B) (hnt : 1 ≤ nt) {i : Nat} (ha : argued nt (ln p i) = true) {hd : Int} {s : St} (h : SOk nt s) (h1 : -1 ≤ hd) (h2 : hd < s.flt.length) : Good nt s (lineGo p B i hd s) := by
  unfold lineGo
  simp only []
  split
  · exact ⟨h.tell _, grow_tell _ _, fun h2 => by cases h2⟩
  split
  · rename_i hk
    unfold argued at ha
    rw [if_neg (by omega), if_pos hk, Bool.and_eq_true] at ha
    exact ⟨h.toss ha.1 h2, grow_toss _ _ _ _, fun _ => by rw [toss_len]; simp only []; omega⟩
  split
  · split
    · exact ⟨h.toss (by unfold hasC within; simp; omega) (by omega), grow_toss _ _ _ _, fun _ => by rw [toss_len]; simp only []; omega⟩
    · exact ⟨h, Grow.refl _, fun _ => by simp only []; omega⟩
  split
  · exact ⟨h, Grow.refl _, fun h2 => by cases h2⟩
  split
  · exact ⟨h, Grow.refl _, fun h2 => by cases h2⟩
  split
  · exact ⟨h, Grow.refl _, fun h2 => by cases h2⟩
  split
  · have g := hB i hd _ (h.tell (100 + (ln p i).a)) h1 h2
    refine ⟨g.1.tell _, (grow_tell _ _).trans (g.2.1.trans (grow_tell _ _)), ?_⟩
    simp only []
    split
    · exact fun h2 => by cases h2
    · exact g.2.2
  split
  · exact good_loop (fun s h h2 => hB i hd s h h1 h2) _ _ h h2
  · exact ⟨h, Grow.refl _, fun h2 => by cases h2⟩
theorem good_line (hB : GoodR nt B) (hnt : 1 ≤ nt) {i : Nat} (ha : argued nt (ln p i) = true) {hd : Int} {s : St} (h : SOk nt s) (h1 : -1 ≤ hd) (h2 : hd < s.flt.length) : Good nt s (lineR p B i hd s) := by
  have := good_lineGo (p := p) hB hnt ha (h.mark p i) h1 (by rw [mark_flt]; exact h2)
  exact ⟨this.1, (grow_mark p i s).trans this.2.1, this.2.2⟩
def GoodT (nt : Nat) (s : St) (x : En × En × St) : Prop := SOk nt x.2.2 ∧ Grow s x.2.2 ∧ EnOk x.2.2 x.1 ∧ EnOk x.2.2 x.2.1
theorem good_part (hB : GoodR nt B) {hd : Int} {x : En × En × St} (k : Nat) (h1 : -1 ≤ hd) (h2 : hd < x.2.2.flt.length) (h : SOk nt x.2.2) (he : EnOk x.2.2 x.1) (hst : EnOk x.2.2 x.2.1) : GoodT nt x.2.2 (partR T p B hd x k) := by
  unfold partR
  simp only []
  split
  · split
    · rename_i hc
      have hv := hst hc.1
      have g := hB k x.2.1.v x.2.2 h (by omega) hv.2
      exact ⟨g.1, g.2.1, g.2.2, fun h2 => by cases h2⟩
    · exact ⟨h, Grow.refl _, he, hst⟩
  split
  · split
    · have g := hB k hd x.2.2 h h1 h2
      exact ⟨g.1, g.2.1, g.2.2, hst.grow g.2.1⟩
    · exact ⟨h, Grow.refl _, he, hst⟩
  split
  · obtain ⟨z, hz⟩ : ∃ z, z = (if x.1.e = 2 then x.1.v else hd) := ⟨_, rfl⟩
    rw [← hz]
    have g : Good nt x.2.2 (B k z x.2.2) := by
      by_cases hc : x.1.e = 2
      · rw [if_pos hc] at hz
        have hv := he hc
        exact hB k _ _ h (by omega) (by omega)
      · rw [if_neg hc] at hz
        exact hB k _ _ h (by omega) (by omega)
    refine ⟨g.1, g.2.1, ?_, hst.grow g.2.1⟩
    show EnOk (B k z x.2.2).2 (if (B k z x.2.2).1.e ≠ 0 then (B k z x.2.2).1 else x.1)
    split
    · exact g.2.2
    · exact he.grow g.2.1
  · exact ⟨h, Grow.refl _, he, hst⟩
theorem good_tryGo (hB : GoodR nt B) {hd : Int} (h1 : -1 ≤ hd) : ∀ (l : List Nat) (x : En × En × St), hd < x.2.2.flt.length → SOk nt x.2.2 → EnOk x.2.2 x.1 → EnOk x.2.2 x.2.1 → GoodT nt x.2.2 (tryGo T p B hd l x)
  | [], x, _, h, he, hst => ⟨h, Grow.refl _, he, hst⟩
  | k :: l, x, h2, h, he, hst => by
    have g := good_part (T := T) (p := p) hB k h1 h2 h he hst
    have := good_tryGo hB h1 l (partR T p B hd x k) (by have := g.2.1.flt.length_le; omega) g.1 g.2.2.1 g.2.2.2
    exact ⟨this.1, g.2.1.trans this.2.1, this.2.2⟩
theorem good_try (hB : GoodR nt B) {hd : Int} (h1 : -1 ≤ hd) (l : List Nat) {s : St} (h : SOk nt s) (h2 : hd < s.flt.length) : Good nt s (tryR T p B l hd s) := by
  have g := hB (l.getD 0 0) hd s h h1 h2
  have := good_tryGo (T := T) (p := p) hB h1 (l.drop 1) (_, _, _) (by have := g.2.1.flt.length_le; simp only []; omega) g.1 g.2.2 g.2.2
  exact ⟨this.1, g.2.1.trans this.2.1, this.2.2.1⟩
theorem good_step (hB : GoodR nt B) (hnt : 1 ≤ nt) {i : Nat} (ha : argued nt (ln p i) = true) {hd : Int} {s : St} (h : SOk nt s) (h1 : -1 ≤ hd) (h2 : hd < s.flt.length) : Good nt s (stepR T p B i hd s) := by
  unfold stepR
  split
  · exact good_try hB h1 _ h h2
  · exact good_line hB hnt ha h h1 h2
theorem good_lines (hB : GoodR nt B) (hnt : 1 ≤ nt) (hA : ∀ i, i < p.length → argued nt (ln p i) = true) {hd : Int} (h1 : -1 ≤ hd) {to : Nat} (hto : to ≤ p.length) : ∀ (m i : Nat) (s : St), to - i = m → SOk nt s → hd < s.flt.length → Good nt s (linesR T p B to i hd s) := by
  intro m
  induction m using Nat.strongRecOn with
  | ind m ih =>
    intro i s hm h h2
    rw [linesR]
    split
    · rename_i hi
      have g := good_step (T := T) (p := p) hB hnt (hA i (by omega)) h h1 h2
      simp only []
      split
      · exact g
      · have := nextR_gt p i
        have := ih (to - nextR p i) (by omega) (nextR p i) _ rfl g.1 (by have := g.2.1.flt.length_le; omega)
        exact ⟨this.1, g.2.1.trans this.2.1, this.2.2⟩
    · exact ⟨h, Grow.refl _, fun h2 => by cases h2⟩
theorem endOf_le' (p : Prg) (i : Nat) : endOf p i ≤ p.length ∨ p.length < endOf p i ∧ p.length ≤ i := by
  by_cases h : i < p.length
  · exact .inl (endOf_le p h)
  · exact .inr ⟨by have := endOf_gt p i; omega, by omega⟩
theorem linesR_out {to i : Nat} {hd : Int} {s : St} (h : ¬ i < to) : linesR T p B to i hd s = (⟨0, 0⟩, s) := by rw [linesR, if_neg h]
theorem good_block (hnt : 1 ≤ nt) (hA : ∀ i, i < p.length → argued nt (ln p i) = true) : ∀ n : Nat, GoodR nt (blockR T p n)
  | 0, _, _, s, h, _, _ => ⟨h, Grow.refl _, fun h2 => by cases h2⟩
  | n + 1, i, hd, s, h, h1, h2 => by
    unfold blockR
    rcases endOf_le' p i with hle | ⟨_, hi⟩
    · exact good_lines (good_block hnt hA n) hnt hA h1 hle _ _ _ rfl h h2
    · have : endOf p i = i + 1 := endFrom_out (.inl (by omega))
      rw [this, linesR_out (by omega)]
      exact ⟨h, Grow.refl _, fun h2 => by cases h2⟩
end
end Go.Proofs.Ytihjakpedbaokaa.K
namespace Go.Proofs.Ytihjakpedbaokaa.K

theorem allFrom0 {n : Nat} {good : Nat → Bool} : allFrom n good 0 = true ↔ ∀ i, i < n → good i = true :=
  (allFrom_iff _ _ rfl).trans ⟨fun h i hi => h i (Nat.zero_le _) hi, fun h i _ hi => h i hi⟩
theorem allFrom_congr {n : Nat} {f g : Nat → Bool} (h : ∀ i, i < n → f i = g i) : allFrom n f 0 = allFrom n g 0 := by
  rw [Bool.eq_iff_iff, allFrom0, allFrom0]
  exact ⟨fun hx i hi => by rw [← h i hi]; exact hx i hi, fun hx i hi => by rw [h i hi]; exact hx i hi⟩
theorem idxFrom_neg {n : Nat} {p : Nat → Bool} : ∀ (d k : Nat), n - k = d → (idxFrom n p k < 0 ↔ ∀ i, k ≤ i → i < n → p i = false) := by
  intro d
  induction d with
  | zero => intro k h; rw [idxFrom_end (by omega)]; exact ⟨fun _ i h1 h2 => absurd h2 (by omega), fun _ => by omega⟩
  | succ d ih =>
    intro k h
    cases hp : p k with
    | true => rw [idxFrom_hit (by omega) hp]; exact ⟨fun h => absurd h (by omega), fun h => by have := h k (Nat.le_refl _) (by omega); rw [hp] at this; cases this⟩
    | false =>
      rw [idxFrom_miss (by omega) hp, ih (k + 1) (by omega)]
      refine ⟨fun h i h1 h2 => ?_, fun h i h1 h2 => h i (by omega) h2⟩
      rcases Nat.lt_or_eq_of_le h1 with h3 | rfl
      · exact h i h3 h2
      · exact hp
theorem idxFrom_at {n : Nat} {p : Nat → Bool} {i : Nat} (hi : i < n) (hp : p i = true) : ∀ (d k : Nat), i - k = d → k ≤ i → (idxFrom n p k = (i : Int) ↔ ∀ j, k ≤ j → j < i → p j = false) := by
  intro d
  induction d with
  | zero =>
    intro k h hk
    obtain rfl : k = i := by omega
    rw [idxFrom_hit hi hp]; exact ⟨fun _ j h1 h2 => absurd h2 (by omega), fun _ => rfl⟩
  | succ d ih =>
    intro k h hk
    cases hp2 : p k with
    | true => rw [idxFrom_hit (by omega) hp2]; exact ⟨fun h => absurd h (by omega), fun h => by have := h k (Nat.le_refl _) (by omega); rw [hp2] at this; cases this⟩
    | false =>
      rw [idxFrom_miss (by omega) hp2, ih (k + 1) (by omega) (by omega)]
      refine ⟨fun h j h1 h2 => ?_, fun h j h1 h2 => h j (by omega) h2⟩
      rcases Nat.lt_or_eq_of_le h1 with h3 | rfl
      · exact h j h3 h2
      · exact hp2

/-! ### trees -/
theorem cl_take {t : Tree} {i j : Nat} (h : j < i) : cl (t.take i) j = cl t j := by unfold cl; simp [h]
theorem clsOk_eq {t : Tree} {i : Nat} (h : i < t.length) : clsOk t i = clsOkS t i := by
  have e : (named t (cl t i).name == (i : Int)) = decide (named (t.take i) (cl t i).name < 0) := by
    rw [Bool.eq_iff_iff, beq_iff_eq, decide_eq_true_iff]
    unfold named
    rw [idxFrom_at h (by simp [sameName]) _ _ rfl (Nat.zero_le _), idxFrom_neg _ _ rfl, show (t.take i).length = i from by simp; omega]
    exact ⟨fun hx j _ hj => by rw [cl_take hj]; exact hx j (Nat.zero_le _) hj, fun hx j _ hj => by have := hx j (Nat.zero_le _) hj; rw [cl_take hj] at this; exact this⟩
  unfold clsOk clsOkS
  rw [e]
theorem validTree_eq (t : Tree) : validTree t = validTreeS t := by unfold validTree validTreeS; rw [allFrom_congr fun i hi => clsOk_eq hi]

/-! ### ends of blocks -/
section
variable {p : Prg} {d : Int}
theorem endFrom_gt (p : Prg) (d : Int) : ∀ (m k : Nat), p.length - k = m → ∀ x, k ≤ x → x < endFrom p d k → d < (ln p x).depth := by
  intro m
  induction m with
  | zero => intro k h x h1 h2; rw [endFrom, if_neg (by omega)] at h2; omega
  | succ m ih =>
    intro k h x h1 h2
    rw [endFrom] at h2
    split at h2
    · rename_i hc
      rcases Nat.lt_or_eq_of_le h1 with h3 | rfl
      · exact ih (k + 1) (by omega) x h3 h2
      · exact hc.2
    · omega
theorem endFrom_stop (p : Prg) (d : Int) : ∀ (m k : Nat), p.length - k = m → k ≤ p.length → endFrom p d k = p.length ∨ (ln p (endFrom p d k)).depth ≤ d := by
  intro m
  induction m with
  | zero => intro k h hk; rw [endFrom, if_neg (by omega)]; exact .inl (by omega)
  | succ m ih =>
    intro k h hk
    rw [endFrom]
    split
    · exact ih (k + 1) (by omega) (by omega)
    · rename_i hc
      exact .inr (by omega)
theorem endFrom_le_of {to : Nat} (h : p.length ≤ to ∨ (ln p to).depth ≤ d) : ∀ (m k : Nat), to - k = m → k ≤ to → endFrom p d k ≤ to := by
  intro m
  induction m with
  | zero => intro k h1 h2; obtain rfl : k = to := by omega
            rw [endFrom_out h]; exact Nat.le_refl _
  | succ m ih =>
    intro k h1 h2
    rw [endFrom]
    split
    · exact ih (k + 1) (by omega) (by omega)
    · exact h2
theorem endOf_in {i x : Nat} (h1 : i < x) (h2 : x < endOf p i) : (ln p i).depth < (ln p x).depth := endFrom_gt p _ _ (i + 1) rfl x h1 h2
theorem endOf_stop {i : Nat} (h : i < p.length) : endOf p i = p.length ∨ (ln p (endOf p i)).depth ≤ (ln p i).depth := endFrom_stop p _ _ (i + 1) rfl h

/-- Lines stand at depths as they may. -/
structure Pl (p : Prg) : Prop where
  nn : ∀ i, i < p.length → 0 ≤ (ln p i).depth
  z : 0 < p.length → (ln p 0).depth = 0
  o : ∀ i, i + 1 < p.length → opens (ln p i).kind = true → (ln p (i + 1)).depth = (ln p i).depth + 1
  n : ∀ i, i + 1 < p.length → opens (ln p i).kind = false → (ln p (i + 1)).depth ≤ (ln p i).depth
/-- The lines from i up to 'to' are the rest of a block of the depth d. -/
structure Cl (p : Prg) (d : Int) (i to : Nat) : Prop where
  le : i ≤ to
  len : to ≤ p.length
  ge : ∀ k, i ≤ k → k < to → d ≤ (ln p k).depth
  at_ : i < to → (ln p i).depth = d
  stop : to = p.length ∨ (ln p to).depth < d
theorem Cl.next {i to : Nat} (h : Cl p d i to) (hi : i < to) : endOf p i ≤ to ∧ Cl p d (endOf p i) to := by
  have hd := h.at_ hi
  have hl := h.len
  have he : endOf p i ≤ to := endFrom_le_of (by rw [hd]; rcases h.stop with h1 | h1; exact .inl (by omega); exact .inr (by omega)) _ _ rfl hi
  have hg := endOf_gt p i
  refine ⟨he, he, hl, fun k h1 h2 => h.ge k (by omega) h2, fun h1 => ?_, h.stop⟩
  have := h.ge (endOf p i) (by omega) h1
  rcases endOf_stop (p := p) (i := i) (by omega) with h2 | h2 <;> omega
theorem Cl.child {i to : Nat} (hP : Pl p) (h : Cl p d i to) (hi : i < to) : Cl p (d + 1) (i + 1) (endOf p i) := by
  have hd := h.at_ hi
  have hl := h.len
  have hg := endOf_gt p i
  have hn := h.next hi
  refine ⟨hg, by omega, fun k h1 h2 => by have := endOf_in (p := p) (i := i) h1 h2; omega, fun h1 => ?_, ?_⟩
  · have h2 := endOf_in (p := p) (i := i) (x := i + 1) (by omega) h1
    by_cases ho : opens (ln p i).kind = true
    · rw [hP.o i (by omega) ho, hd]
    · have := hP.n i (by omega) (by simpa using ho); omega
  · rcases endOf_stop (p := p) (i := i) (by omega) with h2 | h2
    · exact .inl h2
    · exact .inr (by omega)
theorem Cl.flat {i to : Nat} (hP : Pl p) (h : Cl p d i to) (hi : i < to) (ho : opens (ln p i).kind = false) : endOf p i = i + 1 := by
  have hl := h.len
  refine endFrom_out ?_
  by_cases h1 : i + 1 < p.length
  · exact .inr (hP.n i h1 ho)
  · exact .inl (by omega)

/-! ### looking back -/
theorem headGo_skip {j : Nat} : ∀ k : Nat, j ≤ k → (∀ x, j ≤ x → x < k → d < (ln p x).depth) → headGo p d k = headGo p d j
  | 0, h, _ => by obtain rfl : j = 0 := by omega
                  rfl
  | k + 1, h, hx => by
    rcases Nat.lt_or_eq_of_le h with h1 | rfl
    · have h2 := hx k (by omega) (by omega)
      show (if (ln p k).depth < d then -1 else if (ln p k).depth = d then (k : Int) else headGo p d k) = _
      rw [if_neg (by omega), if_neg (by omega)]
      exact headGo_skip k (by omega) fun x h3 h4 => hx x h3 (by omega)
    · rfl
theorem headGo_hit {j k : Nat} (hj : (ln p j).depth = d) (h : j < k) (hx : ∀ x, j < x → x < k → d < (ln p x).depth) : headGo p d k = j := by
  rw [headGo_skip (j := j + 1) k h fun x h1 h2 => hx x h1 h2]
  show (if (ln p j).depth < d then -1 else if (ln p j).depth = d then (j : Int) else headGo p d j) = _
  rw [if_neg (by omega), if_pos hj]
theorem headGo_child {j : Nat} (hj : (ln p j).depth < d) : headGo p d (j + 1) = -1 := by
  show (if (ln p j).depth < d then -1 else if (ln p j).depth = d then (j : Int) else headGo p d j) = _
  rw [if_pos hj]
theorem inLoopGo_skip {j : Nat} : ∀ k : Nat, j ≤ k → (∀ x, j ≤ x → x < k → d ≤ (ln p x).depth) → inLoopGo p k d = inLoopGo p j d
  | 0, h, _ => by obtain rfl : j = 0 := by omega
                  rfl
  | k + 1, h, hx => by
    rcases Nat.lt_or_eq_of_le h with h1 | rfl
    · have h2 := hx k (by omega) (by omega)
      show (if (ln p k).depth < d then _ else inLoopGo p k d) = _
      rw [if_neg (by omega)]
      exact inLoopGo_skip k (by omega) fun x h3 h4 => hx x h3 (by omega)
    · rfl
theorem inLoopGo_child {j : Nat} (hj : (ln p j).depth = d) : inLoopGo p (j + 1) (d + 1) = (inLoopGo p j d || (ln p j).kind == 12) := by
  show (if (ln p j).depth < d + 1 then (if (ln p j).kind = 12 then true else inLoopGo p j (ln p j).depth) else inLoopGo p j (d + 1)) = _
  rw [if_pos (by omega), hj]
  by_cases h : (ln p j).kind = 12
  · rw [if_pos h, h]; simp
  · rw [if_neg h, show ((ln p j).kind == 12) = false from by simpa using h, Bool.or_false]

/-! ### the lines of a try -/
def tryEnd (p : Prg) (d : Int) (k : Nat) : Nat :=
  if k < p.length ∧ (ln p k).depth = d ∧ follows (ln p k).kind = true then tryEnd p d (endOf p k) else k
  termination_by p.length - k
  decreasing_by have := endOf_gt p k; omega
theorem tryEnd_yes {k : Nat} (h : k < p.length ∧ (ln p k).depth = d ∧ follows (ln p k).kind = true) : tryEnd p d k = tryEnd p d (endOf p k) := by rw [tryEnd, if_pos h]
theorem tryEnd_no {k : Nat} (h : ¬ (k < p.length ∧ (ln p k).depth = d ∧ follows (ln p k).kind = true)) : tryEnd p d k = k := by rw [tryEnd, if_neg h]
theorem tryRest_y {k : Nat} (h : k < p.length ∧ (ln p k).depth = d ∧ follows (ln p k).kind = true) : tryRest p d k = k :: tryRest p d (endOf p k) := by rw [tryRest, if_pos h]
theorem tryRest_n {k : Nat} (h : ¬ (k < p.length ∧ (ln p k).depth = d ∧ follows (ln p k).kind = true)) : tryRest p d k = [] := by rw [tryRest, if_neg h]
theorem tryRest_all : ∀ (m k : Nat), p.length - k = m → ∀ x ∈ tryRest p d k, k ≤ x ∧ x < p.length ∧ (ln p x).depth = d ∧ follows (ln p x).kind = true := by
  intro m
  induction m using Nat.strongRecOn with
  | ind m ih =>
    intro k h x hx
    by_cases hc : k < p.length ∧ (ln p k).depth = d ∧ follows (ln p k).kind = true
    · rw [tryRest_y hc] at hx
      have := endOf_gt p k
      rcases List.mem_cons.1 hx with rfl | hx
      · exact ⟨Nat.le_refl _, hc⟩
      · have := ih (p.length - endOf p k) (by omega) _ rfl x hx
        exact ⟨by omega, this.2⟩
    · rw [tryRest_n hc] at hx; cases hx
/-- spec's chain is impl's. -/
theorem chainFrom_eq : ∀ (m k : Nat), p.length - k = m → k < p.length → (ln p k).depth = d → chainFrom p (sameNext p k) = tryRest p d (endOf p k) := by
  intro m
  induction m using Nat.strongRecOn with
  | ind m ih =>
    intro k h hk hd
    have hg := endOf_gt p k
    by_cases hs : endOf p k < p.length ∧ (ln p (endOf p k)).depth = (ln p k).depth
    · have e : sameNext p k = endOf p k := by unfold sameNext; rw [if_pos hs]
      rw [e, chainFrom]
      by_cases hf : follows (ln p (endOf p k)).kind = true
      · rw [if_pos ⟨hs.1, hf⟩, tryRest_y ⟨hs.1, by omega, hf⟩, ih (p.length - endOf p k) (by omega) _ rfl hs.1 (by omega)]
      · rw [if_neg (fun hx => hf hx.2), tryRest_n (fun hx => hf hx.2.2)]
    · have e : sameNext p k = p.length := by unfold sameNext; rw [if_neg hs]
      rw [e, chainFrom, if_neg (fun hx => absurd hx.1 (Nat.lt_irrefl _)), tryRest_n (fun hx => hs ⟨hx.1, by omega⟩)]
theorem chainOf_eq {i : Nat} (h : i < p.length) : chainOf p i = tryFrom p i := by unfold chainOf tryFrom; rw [chainFrom_eq _ _ rfl h rfl]
theorem follows_iff {k : Int} : follows k = true ↔ 8 ≤ k ∧ k ≤ 10 := by unfold follows within; simp
theorem opens_iff {k : Int} : opens k = true ↔ 7 ≤ k ∧ k ≤ 12 := by unfold opens within; simp
theorem tryOkGo_eq {l : List Nat} (hl : ∀ i, 1 ≤ i → i < l.length → follows (ln p (l.getD i 0)).kind = true) : ∀ (m k ex : Nat), l.length - k = m → 1 ≤ k → (k = 1 → (ln p (l.getD 0 0)).kind = 7 ∧ ex = 0) → ((ln p (l.getD (k - 1) 0)).kind = 8 → 0 < ex) →
    tryOkGo p l k ex (ln p (l.getD (k - 1) 0)).kind = chainOkGo p l k ex := by
  intro m
  induction m with
  | zero => intro k ex h _ _ _; rw [tryOkGo, chainOkGo, if_neg (by omega), if_neg (by omega)]
  | succ m ih =>
    intro k ex h h1 h2 h3
    have hk : k < l.length := by omega
    have hf := follows_iff.1 (hl k h1 hk)
    have hq : k = 1 ∨ (1 < k ∧ 8 ≤ (ln p (l.getD (k - 1) 0)).kind ∧ (ln p (l.getD (k - 1) 0)).kind ≤ 10) := by
      rcases Nat.lt_or_eq_of_le h1 with h4 | h4
      · exact .inr ⟨h4, follows_iff.1 (hl (k - 1) (by omega) (by omega))⟩
      · exact .inl h4.symm
    have h7 : k = 1 → (ln p (l.getD (k - 1) 0)).kind = 7 := fun e => by subst e; exact (h2 rfl).1
    have IH : ∀ ex', ((ln p (l.getD k 0)).kind = 8 → 0 < ex') → tryOkGo p l (k + 1) ex' (ln p (l.getD k 0)).kind = chainOkGo p l (k + 1) ex' := fun ex' hx => by
      have := ih (k + 1) ex' (by omega) (by omega) (fun e => by omega) (by simpa using hx)
      simpa using this
    rw [tryOkGo, chainOkGo, if_pos hk, if_pos hk]
    simp only []
    by_cases k8 : (ln p (l.getD k 0)).kind = 8
    · rw [if_pos (show (ln p (l.getD k 0)).kind = 8 from k8)]
      by_cases hl8 : (ln p (l.getD (k - 1) 0)).kind ≤ 8
      · rw [if_pos ⟨k8, hl8⟩, if_neg (by omega)]
        exact IH _ (fun _ => by omega)
      · rw [if_neg (by omega), if_neg (by omega), if_pos (by rcases hq with hq | hq; have := h7 hq; omega; omega)]
    · rw [if_neg (fun hx => k8 hx.1), if_neg k8]
      by_cases hy : ((ln p (l.getD k 0)).kind = 9 ∧ (ln p (l.getD (k - 1) 0)).kind = 8) ∨ ((ln p (l.getD k 0)).kind = 10 ∧ (ln p (l.getD (k - 1) 0)).kind < 10)
      · rw [if_pos hy, if_neg (by omega)]
        exact IH _ (fun hx => absurd hx k8)
      · rw [if_neg hy, if_pos]
        rcases hq with hq | hq
        · have := h7 hq; have := (h2 hq).2; omega
        · omega
theorem tryFrom_follows {i : Nat} : ∀ k, 1 ≤ k → k < (tryFrom p i).length → follows (ln p ((tryFrom p i).getD k 0)).kind = true := by
  intro k h1 h2
  obtain ⟨k, rfl⟩ : ∃ j, k = j + 1 := ⟨k - 1, by omega⟩
  unfold tryFrom at h2 ⊢
  simp only [List.length_cons] at h2
  rw [List.getD_cons_succ]
  have hm : (tryRest p (ln p i).depth (endOf p i)).getD k 0 ∈ tryRest p (ln p i).depth (endOf p i) := by simp [List.getElem?_eq_getElem (show k < (tryRest p (ln p i).depth (endOf p i)).length by omega)]
  exact (tryRest_all _ _ rfl _ hm).2.2.2
theorem tryOk_eq {i : Nat} (h : i < p.length) (hk : (ln p i).kind = 7) : tryOk p (tryFrom p i) = validChain p i := by
  unfold tryOk validChain
  rw [chainOf_eq h]
  have e : (tryFrom p i).getD 0 0 = i := rfl
  have := tryOkGo_eq (p := p) (l := tryFrom p i) tryFrom_follows _ 1 0 rfl (Nat.le_refl _) (fun _ => ⟨by rw [e]; exact hk, rfl⟩) (by simp only [Nat.sub_self]; rw [e, hk]; omega)
  simp only [Nat.sub_self] at this
  rw [e, hk] at this
  exact this

/-! ### the lines of a block -/
def CC (p : Prg) (k : Nat) : Prop := ((ln p k).kind = 7 → validChain p k = true) ∧ ((ln p k).kind = 5 ∨ (ln p k).kind = 6 → inLoop p k = true) ∧ (follows (ln p k).kind = true → headed p k = true)
def hdAt (p : Prg) (d : Int) (k : Nat) : Prop := 0 ≤ headGo p d k ∧ ((ln p (headGo p d k).toNat).kind = 7 ∨ follows (ln p (headGo p d k).toNat).kind = true)
theorem headed_iff {k : Nat} : headed p k = true ↔ hdAt p (ln p k).depth k := by unfold headed hdAt headOf; simp
theorem hdAt_of {j k : Nat} (h : headGo p d k = j) : hdAt p d k ↔ (ln p j).kind = 7 ∨ follows (ln p j).kind = true := by unfold hdAt; rw [h]; simp
theorem siblings_y {i to : Nat} (h : i < to) : siblings p i to = i :: siblings p (endOf p i) to := by rw [siblings, if_pos h]
theorem siblings_n {i to : Nat} (h : ¬ i < to) : siblings p i to = [] := by rw [siblings, if_neg h]
theorem head_next {i to : Nat} (h : Cl p d i to) (hi : i < to) : headGo p d (endOf p i) = i :=
  headGo_hit (h.at_ hi) (endOf_gt p i) fun x h1 h2 => by have := endOf_in (p := p) (i := i) h1 h2; have := h.at_ hi; omega
theorem loop_next {i to : Nat} (h : Cl p d i to) (hi : i < to) : inLoopGo p (endOf p i) d = inLoopGo p i d :=
  inLoopGo_skip _ (Nat.le_of_lt (endOf_gt p i)) fun x h1 h2 => h.ge x h1 (by have := (h.next hi).1; omega)

structure TrySpec (p : Prg) (d : Int) (to q : Nat) : Prop where
  cl : Cl p d (tryEnd p d q) to
  ge : q ≤ tryEnd p d q
  sib : siblings p q to = tryRest p d q ++ siblings p (tryEnd p d q) to
  lp : inLoopGo p (tryEnd p d q) d = inLoopGo p q d
  no : ¬ (tryEnd p d q < p.length ∧ (ln p (tryEnd p d q)).depth = d ∧ follows (ln p (tryEnd p d q)).kind = true)
  cc : (∀ k, q ≤ k → k < tryEnd p d q → CC p k) ↔ ∀ x ∈ tryRest p d q, ∀ k, x + 1 ≤ k → k < endOf p x → CC p k
  mem : ∀ x ∈ tryRest p d q, q ≤ x ∧ x < to ∧ Cl p (d + 1) (x + 1) (endOf p x) ∧ inLoopGo p (x + 1) (d + 1) = inLoopGo p q d
theorem try_spec (hP : Pl p) {to : Nat} : ∀ (m q : Nat), to - q = m → Cl p d q to → (q < to → hdAt p d q) → TrySpec p d to q := by
  intro m
  induction m using Nat.strongRecOn with
  | ind m ih =>
    intro q hm h hh
    by_cases hc : q < p.length ∧ (ln p q).depth = d ∧ follows (ln p q).kind = true
    · have hq : q < to := by
        rcases Nat.lt_or_eq_of_le h.le with h1 | rfl
        · exact h1
        · rcases h.stop with h2 | h2 <;> omega
      have hg := endOf_gt p q
      have hn := h.next hq
      have S := ih (to - endOf p q) (by omega) (endOf p q) rfl hn.2 fun _ => (hdAt_of (head_next h hq)).2 (.inr hc.2.2)
      have hf := follows_iff.1 hc.2.2
      have hcc : CC p q := ⟨fun e => by omega, fun e => by omega, fun _ => headed_iff.2 (by rw [hc.2.1]; exact hh hq)⟩
      have e := tryEnd_yes hc
      have er := tryRest_y hc
      refine ⟨by rw [e]; exact S.cl, by rw [e]; have := S.ge; omega, ?_, by rw [e, S.lp, loop_next h hq], by rw [e]; exact S.no, ?_, ?_⟩
      · rw [siblings_y hq, er, e, S.sib]; rfl
      · rw [e, er]
        constructor
        · intro hx x hxm k h1 h2
          rcases List.mem_cons.1 hxm with rfl | hxm
          · exact hx k (by omega) (by have := S.ge; omega)
          · exact S.cc.1 (fun k h1 h2 => hx k (by omega) h2) x hxm k h1 h2
        · intro hx k h1 h2
          by_cases h3 : k < endOf p q
          · rcases Nat.lt_or_eq_of_le h1 with h4 | rfl
            · exact hx q List.mem_cons_self k h4 h3
            · exact hcc
          · exact S.cc.2 (fun x hxm => hx x (List.mem_cons_of_mem _ hxm)) k (by omega) h2
      · rw [er]
        intro x hxm
        rcases List.mem_cons.1 hxm with rfl | hxm
        · refine ⟨Nat.le_refl _, hq, h.child hP hq, ?_⟩
          rw [inLoopGo_child hc.2.1, show ((ln p x).kind == 12) = false from by simp; omega, Bool.or_false]
        · have := S.mem x hxm
          exact ⟨by omega, this.2.1, this.2.2.1, this.2.2.2.trans (loop_next h hq)⟩
    · have e := tryEnd_no hc
      have er := tryRest_n hc
      refine ⟨by rw [e]; exact h, by rw [e]; exact Nat.le_refl _, by rw [e, er]; rfl, by rw [e], by rw [e]; exact hc, ?_, by rw [er]; intro x hx; cases hx⟩
      rw [e, er]
      exact ⟨fun _ x hx => (by cases hx), fun _ k h1 h2 => by omega⟩

theorem blockGo_shift (rec : Nat → Nat → Bool → Bool) (x : Nat) (l : List Nat) (loop : Bool) : ∀ (m n : Nat), l.length - n = m → blockGo rec p (x :: l) loop (n + 1) = blockGo rec p l loop n := by
  intro m
  induction m using Nat.strongRecOn with
  | ind m ih =>
    intro n hm
    rw [blockGo]
    conv => rhs; rw [blockGo]
    by_cases h : n < l.length
    · have e1 := ih (l.length - (n + 1)) (by omega) (n + 1) rfl
      have e2 : ∀ c, blockGo rec p (x :: l) loop (n + 1 + c + 1) = blockGo rec p l loop (n + c + 1) := fun c => by
        have := ih (l.length - (n + c + 1)) (by omega) (n + c + 1) rfl
        rw [← this]; congr 1; omega
      rw [if_pos (show n + 1 < (x :: l).length by simp; omega), if_pos h]
      simp only [List.getD_cons_succ, e1, e2]
    · rw [if_neg (show ¬ n + 1 < (x :: l).length by simp; omega), if_neg h]
theorem blockGo_drop (rec : Nat → Nat → Bool → Bool) (loop : Bool) (l : List Nat) : ∀ l1 : List Nat, blockGo rec p (l1 ++ l) loop l1.length = blockGo rec p l loop 0
  | [] => rfl
  | x :: l1 => by rw [List.cons_append, List.length_cons, blockGo_shift _ _ _ _ _ _ rfl]; exact blockGo_drop rec loop l l1

theorem range_split {P : Nat → Prop} {j e to : Nat} (h1 : j < e) (h2 : e ≤ to) : (∀ k, j ≤ k → k < to → P k) ↔ P j ∧ (∀ k, j + 1 ≤ k → k < e → P k) ∧ ∀ k, e ≤ k → k < to → P k := by
  constructor
  · exact fun h => ⟨h j (Nat.le_refl _) (by omega), fun k h3 h4 => h k (by omega) (by omega), fun k h3 h4 => h k (by omega) h4⟩
  · rintro ⟨a, b, c⟩ k h3 h4
    by_cases h5 : k < e
    · rcases Nat.lt_or_eq_of_le h3 with h6 | rfl
      · exact b k h6 h5
      · exact a
    · exact c k (by omega) h4

theorem block_iff (hP : Pl p) : ∀ (f : Nat) (d : Int) (i to : Nat) (loop : Bool), Cl p d i to → to - i < f → inLoopGo p i d = loop → (i < to → follows (ln p i).kind = true → ¬ hdAt p d i) → (blockOk p f i to loop = true ↔ ∀ k, i ≤ k → k < to → CC p k) := by
  intro f
  induction f with
  | zero => intro d i to loop _ h; omega
  | succ f ihf =>
    intro d i to loop hcl hf hlp hno
    show blockGo (blockOk p f) p (siblings p i to) loop 0 = true ↔ _
    suffices hB : ∀ (m j : Nat), to - j = m → Cl p d j to → to - j < f + 1 → inLoopGo p j d = loop → (j < to → follows (ln p j).kind = true → ¬ hdAt p d j) → (blockGo (blockOk p f) p (siblings p j to) loop 0 = true ↔ ∀ k, j ≤ k → k < to → CC p k) from hB _ i rfl hcl hf hlp hno
    intro m
    induction m using Nat.strongRecOn with
    | ind m ih =>
      intro j hm h hfu hl hnj
      by_cases hj : j < to
      · have hd := h.at_ hj
        have hg := endOf_gt p j
        have hn := h.next hj
        have hlen := h.len
        have hln := (loop_next h hj).trans hl
        have hch := h.child hP hj
        have hinl : inLoop p j = loop := by unfold inLoop; rw [hd]; exact hl
        have hhd := headed_iff (p := p) (k := j)
        rw [hd] at hhd
        have hsp := range_split (P := CC p) hg hn.1
        have hnext : (ln p j).kind ≠ 7 → follows (ln p j).kind = false → (blockGo (blockOk p f) p (siblings p (endOf p j) to) loop 0 = true ↔ ∀ k, endOf p j ≤ k → k < to → CC p k) := fun h7 hf => by
          refine ih (to - endOf p j) (by omega) (endOf p j) rfl hn.2 (by omega) hln fun _ _ hx => ?_
          rcases (hdAt_of (head_next h hj)).1 hx with h1 | h1
          · exact h7 h1
          · rw [hf] at h1; cases h1
        rw [siblings_y hj, blockGo, if_pos (by simp)]
        simp only [List.getD_cons_zero, Nat.zero_add]
        rw [hsp]
        by_cases k5 : (ln p j).kind = 5 ∨ (ln p j).kind = 6
        · have hnf : follows (ln p j).kind = false := by rw [Bool.eq_false_iff]; intro hx; have := follows_iff.1 hx; omega
          have ho : opens (ln p j).kind = false := by rw [Bool.eq_false_iff]; intro hx; have := opens_iff.1 hx; omega
          have hfl := h.flat hP hj ho
          have hcc : CC p j ↔ loop = true := ⟨fun hx => by rw [← hinl]; exact hx.2.1 k5, fun hx => ⟨fun e => by omega, fun _ => by rw [hinl]; exact hx, fun e => by rw [hnf] at e; cases e⟩⟩
          rw [if_pos k5, hcc]
          cases loop with
          | false => simp
          | true =>
            rw [if_pos rfl, blockGo_shift _ _ _ _ _ _ rfl, hnext (by omega) hnf]
            exact ⟨fun hx => ⟨rfl, fun k h1 h2 => by omega, hx⟩, fun hx => hx.2.2⟩
        rw [if_neg k5]
        by_cases k8 : (ln p j).kind = 8 ∨ (ln p j).kind = 9 ∨ (ln p j).kind = 10
        · have hfo : follows (ln p j).kind = true := follows_iff.2 (by omega)
          rw [if_pos k8]
          exact ⟨fun hx => (by cases hx), fun hx => absurd (hhd.1 (hx.1.2.2 hfo)) (hnj hj hfo)⟩
        rw [if_neg k8]
        have hnf : follows (ln p j).kind = false := by rw [Bool.eq_false_iff]; intro hx; have := follows_iff.1 hx; omega
        by_cases k7 : (ln p j).kind = 7
        · rw [if_pos k7]
          have S := try_spec hP _ _ rfl hn.2 fun _ => (hdAt_of (head_next h hj)).2 (.inl k7)
          have hcc : CC p j ↔ tryOk p (tryFrom p j) = true := by
            rw [tryOk_eq (by omega) k7]
            exact ⟨fun hx => hx.1 k7, fun hx => ⟨fun _ => hx, fun e => absurd e k5, fun e => by rw [hnf] at e; cases e⟩⟩
          have hch2 : inLoopGo p (j + 1) (d + 1) = loop := by rw [inLoopGo_child hd, hl, k7]; simp
          have hAll : (∀ k ∈ tryFrom p j, blockOk p f (k + 1) (endOf p k) loop = true) ↔ (∀ k, j + 1 ≤ k → k < endOf p j → CC p k) ∧ ∀ k, endOf p j ≤ k → k < tryEnd p d (endOf p j) → CC p k := by
            have hj1 := ihf (d + 1) (j + 1) (endOf p j) loop hch (by omega) hch2 (fun _ _ hx => by unfold hdAt at hx; rw [headGo_child (by omega)] at hx; omega)
            have hr : ∀ x ∈ tryRest p d (endOf p j), (blockOk p f (x + 1) (endOf p x) loop = true ↔ ∀ k, x + 1 ≤ k → k < endOf p x → CC p k) := fun x hx => by
              obtain ⟨a1, a2, a3, a4⟩ := S.mem x hx
              have hxd := (tryRest_all _ _ rfl x hx).2.2.1
              refine ihf (d + 1) (x + 1) (endOf p x) loop a3 ?_ (by rw [a4, hln]) (fun _ _ hx => by unfold hdAt at hx; rw [headGo_child (by omega)] at hx; omega)
              have : endOf p x ≤ to := endFrom_le_of (by rw [hxd]; rcases h.stop with h1 | h1; exact .inl (by omega); exact .inr (by omega)) _ _ rfl a2
              omega
            rw [S.cc]
            unfold tryFrom
            rw [hd]
            constructor
            · exact fun hx => ⟨hj1.1 (hx j List.mem_cons_self), fun x hxm => (hr x hxm).1 (hx x (List.mem_cons_of_mem _ hxm))⟩
            · rintro ⟨ha, hb⟩ x hxm
              rcases List.mem_cons.1 hxm with rfl | hxm
              · exact hj1.2 ha
              · exact (hr x hxm).2 (hb x hxm)
          have hsib : j :: siblings p (endOf p j) to = tryFrom p j ++ siblings p (tryEnd p d (endOf p j)) to := by unfold tryFrom; rw [hd, S.sib]; rfl
          have hlen2 : (tryFrom p j).length - 1 + 1 = (tryFrom p j).length := by unfold tryFrom; simp
          have hge := S.ge
          have hrest := ih (to - tryEnd p d (endOf p j)) (by omega) (tryEnd p d (endOf p j)) rfl S.cl (by omega) (by rw [S.lp, hln]) (fun h1 h2 _ => S.no ⟨by omega, S.cl.at_ h1, h2⟩)
          rw [hsib, hlen2, blockGo_drop]
          have hsp2 : (∀ k, endOf p j ≤ k → k < to → CC p k) ↔ (∀ k, endOf p j ≤ k → k < tryEnd p d (endOf p j) → CC p k) ∧ ∀ k, tryEnd p d (endOf p j) ≤ k → k < to → CC p k := by
            have hle := S.cl.le
            exact ⟨fun hx => ⟨fun k h1 h2 => hx k h1 (by omega), fun k h1 h2 => hx k (by omega) h2⟩, fun hx k h1 h2 => by
              by_cases h3 : k < tryEnd p d (endOf p j)
              · exact hx.1 k h1 h3
              · exact hx.2 k (by omega) h2⟩
          rw [hsp2]
          split
          · rename_i hy
            have hy2 := hAll.1 hy.2
            rw [hrest]
            exact ⟨fun hz => ⟨hcc.2 hy.1, hy2.1, hy2.2, hz⟩, fun hz => hz.2.2.2⟩
          · rename_i hy
            exact ⟨fun hz => (by cases hz), fun hz => absurd ⟨hcc.1 hz.1, hAll.2 ⟨hz.2.1, hz.2.2.1⟩⟩ hy⟩
        rw [if_neg k7]
        have hcc : CC p j := ⟨fun e => absurd e k7, fun e => absurd e k5, fun e => by rw [hnf] at e; cases e⟩
        by_cases k11 : (ln p j).kind = 11 ∨ (ln p j).kind = 12
        · rw [if_pos k11]
          have hj1 := ihf (d + 1) (j + 1) (endOf p j) (loop || (ln p j).kind == 12) hch (by omega) (by rw [inLoopGo_child hd, hl]) (fun _ _ hx => by unfold hdAt at hx; rw [headGo_child (by omega)] at hx; omega)
          split
          · rename_i hy
            rw [blockGo_shift _ _ _ _ _ _ rfl, hnext k7 hnf]
            exact ⟨fun hz => ⟨hcc, hj1.1 hy, hz⟩, fun hz => hz.2.2⟩
          · rename_i hy
            exact ⟨fun hz => (by cases hz), fun hz => absurd (hj1.2 hz.2.1) hy⟩
        · rw [if_neg k11]
          have ho : opens (ln p j).kind = false := by rw [Bool.eq_false_iff]; intro hx; have := opens_iff.1 hx; omega
          have hfl := h.flat hP hj ho
          rw [blockGo_shift _ _ _ _ _ _ rfl, hnext k7 hnf]
          exact ⟨fun hz => ⟨hcc, fun k h1 h2 => by omega, hz⟩, fun hz => hz.2.2⟩
      · rw [siblings_n hj, blockGo, if_neg (by simp)]
        exact ⟨fun _ k h1 h2 => by omega, fun _ => rfl⟩
end

/-! ### the two tests -/
structure LineSpec (n : Nat) (p : Prg) (i : Nat) : Prop where
  arg : argued n (ln p i) = true
  dep : within (ln p i).depth 0 5 = true
  place : badPlace p i = false
theorem lineOk_iff (n : Nat) (p : Prg) : (linesOk n p = true ∧ (p.length = 0 ∨ opens (prevLine p p.length).kind = false)) ↔ ∀ i, i < p.length → LineSpec n p i := by
  unfold linesOk
  rw [allFrom0]
  have hpt : ∀ i, i < p.length → (lineOk n (prevLine p i) (ln p i) = true ∧ (i + 1 = p.length → opens (ln p i).kind = false) ↔ LineSpec n p i) := by
    intro i hi
    unfold lineOk prevLine
    by_cases h0 : i = 0
    · subst h0
      rw [if_pos rfl]
      have ho : opens 7 = true := by decide
      constructor
      · rintro ⟨h1, h2⟩
        simp [ho] at h1
        refine ⟨h1.1.1, h1.1.2, ?_⟩
        unfold badPlace
        by_cases hl : 1 = p.length
        · simp [h1.2, ← hl, h2 (by omega)]
        · simp [h1.2, hl]
      · rintro ⟨h1, h2, h3⟩
        unfold badPlace at h3
        simp at h3
        refine ⟨by rw [h3.1] at h2; simp [ho, h1, h2, h3.1], fun h => h3.2 (by omega)⟩
    · rw [if_neg h0]
      constructor
      · rintro ⟨h1, h2⟩
        simp at h1
        refine ⟨h1.1.1.1, h1.1.1.2, ?_⟩
        unfold badPlace
        simp [h0]
        refine ⟨?_, fun h => h2 h⟩
        intro _
        cases ho : opens (ln p (i - 1)).kind with
        | true => have h5 : (ln p i).depth = (ln p (i - 1)).depth + 1 := by rcases h1.1.2 with h5 | h5; rw [ho] at h5; cases h5; exact h5
                  exact ⟨by omega, by rw [h5]; simp⟩
        | false =>
          have h5 : (ln p i).depth ≤ (ln p (i - 1)).depth := by rcases h1.2 with h5 | h5; rw [ho] at h5; cases h5; exact h5
          refine ⟨by omega, ?_⟩
          simp; omega
      · rintro ⟨h1, h2, h3⟩
        unfold badPlace at h3
        simp [h0] at h3
        obtain ⟨h4, h6⟩ := h3
        obtain ⟨h4, h5⟩ := h4 (by omega)
        refine ⟨?_, fun h => h6 h⟩
        simp [h1, h2]
        cases ho : opens (ln p (i - 1)).kind with
        | true => rw [ho] at h5; simp at h5; simp; omega
        | false => rw [ho] at h5; simp at h5; simp; omega
  constructor
  · rintro ⟨h1, h2⟩ i hi
    refine (hpt i hi).1 ⟨h1 i hi, fun h => ?_⟩
    rcases h2 with h2 | h2
    · omega
    · unfold prevLine at h2; rw [if_neg (by omega), show p.length - 1 = i from by omega] at h2; exact h2
  · intro h
    refine ⟨fun i hi => ((hpt i hi).2 (h i hi)).1, ?_⟩
    by_cases h0 : p.length = 0
    · exact .inl h0
    · right
      unfold prevLine
      rw [if_neg h0]
      exact ((hpt (p.length - 1) (by omega)).2 (h _ (by omega))).2 (by omega)
theorem pl_of {n : Nat} {p : Prg} (h : ∀ i, i < p.length → LineSpec n p i) : Pl p := by
  refine ⟨fun i hi => ?_, fun hi => ?_, fun i hi ho => ?_, fun i hi ho => ?_⟩
  · have := (h i hi).dep; unfold within at this; simp at this; omega
  · have := (h 0 hi).place; unfold badPlace at this; simp at this; exact this.1
  · have := (h (i + 1) hi).place; unfold badPlace at this; simp [ho] at this; omega
  · have := (h (i + 1) hi).place; unfold badPlace at this; simp [ho] at this; omega
theorem cl_all {p : Prg} (h : Pl p) : Cl p 0 0 p.length := ⟨Nat.zero_le _, Nat.le_refl _, fun k _ hk => h.nn k hk, fun hi => h.z hi, .inl rfl⟩
theorem valid_eq (t : Tree) (p : Prg) : validProg t p = validProgram t p := by
  rw [Bool.eq_iff_iff]
  unfold validProg validProgram
  simp only [Bool.and_eq_true, decide_eq_true_iff]
  rw [validTree_eq, allFrom0]
  have hb : Pl p → (blockOk p (p.length + 1) 0 p.length false = true ↔ ∀ k, k < p.length → CC p k) := fun hP => by
    rw [block_iff hP (p.length + 1) 0 0 p.length false (cl_all hP) (by omega) rfl (fun _ _ hx => by unfold hdAt at hx; have : headGo p 0 0 = -1 := rfl; rw [this] at hx; omega)]
    exact ⟨fun h k hk => h k (Nat.zero_le _) hk, fun h k _ hk => h k hk⟩
  have hv : ∀ i, (validLine t.length p i = true ↔ LineSpec t.length p i ∧ CC p i) := by
    intro i
    unfold validLine CC
    have hbk : badKind p i = false ↔ ((ln p i).kind = 7 → validChain p i = true) ∧ ((ln p i).kind = 5 ∨ (ln p i).kind = 6 → inLoop p i = true) := by
      unfold badKind
      simp
    simp only [Bool.and_eq_true, Bool.not_eq_true', Bool.or_eq_true]
    rw [hbk]
    constructor
    · rintro ⟨⟨⟨⟨a, b⟩, c⟩, d, e⟩, f⟩
      exact ⟨⟨a, b, c⟩, d, e, fun hf => by rcases f with f | f; rw [hf] at f; cases f; exact f⟩
    · rintro ⟨⟨a, b, c⟩, d, e, f⟩
      refine ⟨⟨⟨⟨a, b⟩, c⟩, d, e⟩, ?_⟩
      cases hf : follows (ln p i).kind with
      | true => exact .inr (f hf)
      | false => exact .inl rfl
  constructor
  · rintro ⟨⟨⟨⟨h1, h2⟩, h3⟩, h4⟩, h5⟩
    have hs := (lineOk_iff t.length p).1 ⟨h3, by simpa using h4⟩
    exact ⟨⟨fun i hi => (hv i).2 ⟨hs i hi, (hb (pl_of hs)).1 h5 i hi⟩, h1⟩, h2⟩
  · rintro ⟨⟨h1, h2⟩, h3⟩
    have hs : ∀ i, i < p.length → LineSpec t.length p i := fun i hi => ((hv i).1 (h1 i hi)).1
    have := (lineOk_iff t.length p).2 hs
    exact ⟨⟨⟨⟨h2, h3⟩, this.1⟩, by simpa using this.2⟩, (hb (pl_of hs)).2 fun i hi => ((hv i).1 (h1 i hi)).2⟩
end Go.Proofs.Ytihjakpedbaokaa.K
namespace Go.Proofs.Ytihjakpedbaokaa.K

inductive F where
  | nil : F
  | node (k a b : Int) (body rest : F) : F
def deep (d : Int) (l : Line) : Bool := decide (d < l.depth)
theorem takeWhile_len {α : Type} (f : α → Bool) : ∀ l : List α, (l.takeWhile f).length ≤ l.length
  | [] => Nat.le_refl _
  | x :: l => by rw [List.takeWhile_cons]; split; exact Nat.succ_le_succ (takeWhile_len f l); exact Nat.zero_le _
theorem dropWhile_len {α : Type} (f : α → Bool) : ∀ l : List α, (l.dropWhile f).length ≤ l.length
  | [] => Nat.le_refl _
  | x :: l => by rw [List.dropWhile_cons]; split; exact Nat.le_succ_of_le (dropWhile_len f l); exact Nat.le_refl _
/-- The forest of lines. -/
def fparse : Prg → F
  | [] => .nil
  | l :: r => .node l.kind l.a l.b (fparse (r.takeWhile (deep l.depth))) (fparse (r.dropWhile (deep l.depth)))
  termination_by p => p.length
  decreasing_by
    · exact Nat.lt_succ_of_le (takeWhile_len _ _)
    · exact Nat.lt_succ_of_le (dropWhile_len _ _)
theorem fparse_nil : fparse [] = .nil := by rw [fparse]
theorem fparse_cons (l : Line) (r : Prg) : fparse (l :: r) = .node l.kind l.a l.b (fparse (r.takeWhile (deep l.depth))) (fparse (r.dropWhile (deep l.depth))) := by rw [fparse]

/-! ### runs -/
/-- What a run has told and raised. -/
structure S2 where
  log : List Int
  flt : List Flt
def pr (s : St) : S2 := ⟨s.log, s.flt⟩
abbrev Rf := Int → S2 → En × S2
def ftell (s : S2) (n : Int) : S2 := { s with log := s.log ++ [n] }
def ftoss (s : S2) (cls code hd : Int) : S2 := { s with flt := raiseF s.flt cls code hd }
def floop (f : S2 → En × S2) : Nat → S2 → En × S2
  | 0, s => (⟨0, 0⟩, s)
  | n + 1, s =>
    let x := f s
    if x.1.e = 1 ∨ x.1.e = 2 then x else if x.1.e = 3 then (⟨0, 0⟩, x.2) else floop f n x.2
def fline (f : Rf) (k a b : Int) (hd : Int) (s : S2) : En × S2 :=
  if k = 1 then (⟨0, 0⟩, ftell s a)
  else if k = 2 then (⟨2, s.flt.length⟩, ftoss s a b hd)
  else if k = 3 then (if hd < 0 then (⟨2, s.flt.length⟩, ftoss s 0 0 (-1)) else (⟨2, hd⟩, s))
  else if k = 4 then (⟨1, a⟩, s)
  else if k = 5 then (⟨3, 0⟩, s)
  else if k = 6 then (⟨4, 0⟩, s)
  else if k = 11 then
    let x := f hd (ftell s (100 + a))
    (if x.1.e = 2 ∧ b = 1 then ⟨0, 0⟩ else x.1, ftell x.2 (200 + a))
  else if k = 12 then floop (f hd) a.toNat s
  else (⟨0, 0⟩, s)
def fpart (T : Tree) (f : Rf) (k a : Int) (hd : Int) (x : En × En × S2) : En × En × S2 :=
  if k = 8 then
    if x.2.1.e = 2 ∧ isc T (fl x.2.2.flt x.2.1.v.toNat).cls a = true then let y := f x.2.1.v x.2.2; (y.1, ⟨-1, 0⟩, y.2) else x
  else if k = 9 then
    if x.2.1.e = 0 then let y := f hd x.2.2; (y.1, x.2.1, y.2) else x
  else if k = 10 then
    let y := f (if x.1.e = 2 then x.1.v else hd) x.2.2
    (if y.1.e ≠ 0 then y.1 else x.1, x.2.1, y.2)
  else x
/-- A forest's run; with 'some', behind a try's lines. -/
def frun (T : Tree) : F → Option (En × En) → Rf
  | .nil, none, _, s => (⟨0, 0⟩, s)
  | .nil, some x, _, s => if x.1.e ≠ 0 then (x.1, s) else (⟨0, 0⟩, s)
  | .node k a b body rest, none, hd, s =>
    if k = 7 then let x := frun T body none hd s; frun T rest (some (x.1, x.1)) hd x.2
    else let x := fline (frun T body none) k a b hd s; if x.1.e ≠ 0 then x else frun T rest none hd x.2
  | .node k a b body rest, some m, hd, s =>
    if follows k = true then let y := fpart T (frun T body none) k a hd (m.1, m.2, s); frun T rest (some (y.1, y.2.1)) hd y.2.2
    else if m.1.e ≠ 0 then (m.1, s)
    else if k = 7 then let x := frun T body none hd s; frun T rest (some (x.1, x.1)) hd x.2
    else let x := fline (frun T body none) k a b hd s; if x.1.e ≠ 0 then x else frun T rest none hd x.2
/-- The first line of a forest goes on with a try. -/
def fheadF : F → Bool
  | .nil => false
  | .node k _ _ _ _ => follows k
theorem frun_some {T : Tree} {f : F} (h : fheadF f = false) (m : En × En) (hd : Int) (s : S2) : frun T f (some m) hd s = if m.1.e ≠ 0 then (m.1, s) else frun T f none hd s := by
  cases f with
  | nil => simp only [frun]
  | node k a b body rest =>
    have hk : follows k = false := h
    simp only [frun, hk]
    simp

/-! ### a part of a program's lines -/
def seg (p : Prg) (i to : Nat) : Prg := (p.take to).drop i
section
variable {p : Prg} {d : Int}
theorem seg_nil {i to : Nat} (h : to ≤ i) : seg p i to = [] := by unfold seg; apply List.drop_eq_nil_of_le; simp; omega
theorem seg_cons {i to : Nat} (h : i < to) (hl : to ≤ p.length) : seg p i to = ln p i :: seg p (i + 1) to := by
  unfold seg
  rw [List.drop_eq_getElem_cons (by simp; omega)]
  congr 1
  unfold ln
  simp [List.getElem?_eq_getElem (show i < p.length by omega)]
theorem seg_all (p : Prg) : seg p 0 p.length = p := by unfold seg; simp
theorem seg_len {i to : Nat} (hl : to ≤ p.length) : (seg p i to).length = to - i := by unfold seg; simp; omega
theorem seg_while {e to : Nat} (hl : to ≤ p.length) (he : e ≤ to) (hs : e = to ∨ deep d (ln p e) = false) : ∀ (m i : Nat), e - i = m → i ≤ e → (∀ k, i ≤ k → k < e → deep d (ln p k) = true) →
    (seg p i to).takeWhile (deep d) = seg p i e ∧ (seg p i to).dropWhile (deep d) = seg p e to := by
  intro m
  induction m with
  | zero =>
    intro i hm hi _
    obtain rfl : i = e := by omega
    rw [seg_nil (to := i) (Nat.le_refl _)]
    rcases hs with rfl | hs
    · rw [seg_nil (Nat.le_refl _)]; exact ⟨rfl, rfl⟩
    · by_cases h : i < to
      · rw [seg_cons h hl, List.takeWhile_cons, List.dropWhile_cons, hs]; exact ⟨rfl, rfl⟩
      · rw [seg_nil (by omega)]; exact ⟨rfl, rfl⟩
  | succ m ih =>
    intro i hm hi hx
    obtain ⟨h1, h2⟩ := ih (i + 1) (by omega) (by omega) fun k h3 h4 => hx k (by omega) h4
    rw [seg_cons (by omega) hl, List.takeWhile_cons, List.dropWhile_cons, hx i (Nat.le_refl _) (by omega), seg_cons (i := i) (to := e) (by omega) (by omega)]
    exact ⟨by simp [h1], by simp [h2]⟩
theorem fparse_seg {i to : Nat} (h : Cl p d i to) (hi : i < to) : fparse (seg p i to) = .node (ln p i).kind (ln p i).a (ln p i).b (fparse (seg p (i + 1) (endOf p i))) (fparse (seg p (endOf p i) to)) := by
  have hn := h.next hi
  have hg := endOf_gt p i
  have hl := h.len
  have hw := seg_while (p := p) (d := (ln p i).depth) hl hn.1 (by
    rcases Nat.lt_or_eq_of_le hn.1 with h1 | h1
    · right
      unfold deep
      rcases endOf_stop (p := p) (i := i) (by omega) with h2 | h2
      · omega
      · simp; exact h2
    · exact .inl h1) _ (i + 1) rfl hg fun k h1 h2 => by unfold deep; have := endOf_in (p := p) (i := i) h1 h2; simp; exact this
  rw [seg_cons hi hl, fparse_cons, hw.1, hw.2]

/-! ### the machine's run is the forest's -/
def PR (x : En × St) : En × S2 := (x.1, pr x.2)
theorem pr_mark (i : Nat) (s : St) : pr (markR p i s) = pr s := by unfold pr; rw [mark_log, mark_flt]
theorem loop_pr {f : St → En × St} {g : S2 → En × S2} (h : ∀ s, PR (f s) = g (pr s)) : ∀ (n : Nat) (s : St), PR (loopR f n s) = floop g n (pr s)
  | 0, s => rfl
  | n + 1, s => by
    have hs := h s
    unfold loopR floop
    rcases hfs : f s with ⟨e, s'⟩
    rw [hfs] at hs
    rw [show g (pr s) = (e, pr s') from hs.symm]
    simp only []
    by_cases h1 : e.e = 1 ∨ e.e = 2
    · rw [if_pos h1, if_pos h1]; rfl
    · rw [if_neg h1, if_neg h1]
      by_cases h2 : e.e = 3
      · rw [if_pos h2, if_pos h2]; rfl
      · rw [if_neg h2, if_neg h2]; exact loop_pr h n s'
/-- A runner of blocks is a run of forests. -/
def BF (T : Tree) (p : Prg) (B : Ru) (k : Nat) : Prop := ∀ (hd : Int) (s : St), PR (B k hd s) = frun T (fparse (seg p (k + 1) (endOf p k))) none hd (pr s)
theorem line_pr {T : Tree} {B : Ru} {i : Nat} (h : BF T p B i) (hd : Int) (s : St) : PR (lineR p B i hd s) = fline (frun T (fparse (seg p (i + 1) (endOf p i))) none) (ln p i).kind (ln p i).a (ln p i).b hd (pr s) := by
  have hm := pr_mark (p := p) i s
  unfold lineR
  generalize markR p i s = s' at hm ⊢
  rw [← hm]
  unfold lineGo fline
  simp only []
  split
  · rfl
  split
  · rfl
  split
  · split <;> rfl
  split
  · rfl
  split
  · rfl
  split
  · rfl
  split
  · have := h hd (tell s' (100 + (ln p i).a))
    rw [show ftell (pr s') (100 + (ln p i).a) = pr (tell s' (100 + (ln p i).a)) from rfl, ← this]
    rfl
  split
  · exact loop_pr (fun s => h hd s) _ _
  · rfl
def PR3 (x : En × En × St) : En × En × S2 := (x.1, x.2.1, pr x.2.2)
theorem part_pr {T : Tree} {B : Ru} {k : Nat} (h : BF T p B k) (hd : Int) (x : En × En × St) : PR3 (partR T p B hd x k) = fpart T (frun T (fparse (seg p (k + 1) (endOf p k))) none) (ln p k).kind (ln p k).a hd (PR3 x) := by
  obtain ⟨e, st, s⟩ := x
  unfold partR fpart PR3
  simp only []
  split
  · rw [show (pr s).flt = s.flt from rfl]
    split
    · rw [← h]; rfl
    · rfl
  split
  · split
    · rw [← h]; rfl
    · rfl
  split
  · rw [← h]; rfl
  · rfl
theorem linesR_in' {T : Tree} {B : Ru} {te i : Nat} {hd : Int} {s : St} (h : i < te) : linesR T p B te i hd s = if (stepR T p B i hd s).1.e ≠ 0 then stepR T p B i hd s else linesR T p B te (nextR p i) hd (stepR T p B i hd s).2 := by rw [linesR, if_pos h]
theorem try_pr {T : Tree} {B : Ru} {to : Nat} (hB : ∀ k, k < to → (ln p k).depth = d → BF T p B k) (hd : Int) : ∀ (m q : Nat), to - q = m → Cl p d q to → ∀ x : En × En × St,
    frun T (fparse (seg p q to)) (some (x.1, x.2.1)) hd (pr x.2.2) = let y := tryGo T p B hd (tryRest p d q) x; if y.1.e ≠ 0 then (y.1, pr y.2.2) else frun T (fparse (seg p (tryEnd p d q) to)) none hd (pr y.2.2) := by
  intro m
  induction m using Nat.strongRecOn with
  | ind m ih =>
    intro q hm h x
    by_cases hc : q < p.length ∧ (ln p q).depth = d ∧ follows (ln p q).kind = true
    · have hq : q < to := by
        rcases Nat.lt_or_eq_of_le h.le with h1 | rfl
        · exact h1
        · rcases h.stop with h2 | h2 <;> omega
      have hg := endOf_gt p q
      have hn := h.next hq
      have e : PR3 (partR T p B hd x q) = _ := part_pr (hB q hq hc.2.1) hd x
      have := ih (to - endOf p q) (by omega) (endOf p q) rfl hn.2 (partR T p B hd x q)
      rw [tryRest_y hc, tryEnd_yes hc, fparse_seg h hq]
      simp only [frun]
      rw [if_pos hc.2.2]
      rw [show ((x.1, x.2.1).1, (x.1, x.2.1).2, pr x.2.2) = PR3 x from rfl, ← e]
      exact this
    · rw [tryRest_n hc, tryEnd_no hc]
      refine frun_some ?_ _ _ _
      by_cases hq : q < to
      · rw [fparse_seg h hq]
        have hl := h.len
        show follows (ln p q).kind = false
        rw [Bool.eq_false_iff]
        exact fun hf => hc ⟨by omega, h.at_ hq, hf⟩
      · rw [seg_nil (by omega), fparse_nil]; rfl
theorem nextR_try {i : Nat} (h7 : (ln p i).kind = 7) : nextR p i = tryEnd p (ln p i).depth (endOf p i) := by
  unfold nextR
  rw [if_pos h7]
  have aux : ∀ (m k : Nat) (x : Nat), p.length - k = m → endOf p x = k → endOf p ((x :: tryRest p (ln p i).depth k).getD ((x :: tryRest p (ln p i).depth k).length - 1) 0) = tryEnd p (ln p i).depth k := by
    intro m
    induction m using Nat.strongRecOn with
    | ind m ih =>
      intro k x hm hx
      by_cases hc : k < p.length ∧ (ln p k).depth = (ln p i).depth ∧ follows (ln p k).kind = true
      · have hg := endOf_gt p k
        have := ih (p.length - endOf p k) (by omega) (endOf p k) k rfl rfl
        rw [tryRest_y hc, tryEnd_yes hc, ← this]
        simp
      · rw [tryRest_n hc, tryEnd_no hc]; exact hx
  exact aux _ _ i rfl rfl
theorem lines_pr (hP : Pl p) {T : Tree} {B : Ru} {to : Nat} (hB : ∀ k, k < to → (ln p k).depth = d → BF T p B k) (hd : Int) : ∀ (m i : Nat), to - i = m → Cl p d i to → ∀ s : St,
    PR (linesR T p B to i hd s) = frun T (fparse (seg p i to)) none hd (pr s) := by
  intro m
  induction m using Nat.strongRecOn with
  | ind m ih =>
    intro i hm h s
    by_cases hi : i < to
    · have hn := h.next hi
      have hg := endOf_gt p i
      have hdi := h.at_ hi
      rw [linesR_in' hi, fparse_seg h hi]
      simp only [frun]
      by_cases h7 : (ln p i).kind = 7
      · have hst : stepR T p B i hd s = tryR T p B (tryFrom p i) hd s := by unfold stepR; rw [if_pos h7]
        have hnx := nextR_try h7
        rw [hdi] at hnx
        have hc0 : (tryFrom p i).getD 0 0 = i := rfl
        have ht := try_pr hB hd _ (endOf p i) rfl hn.2 ((B i hd s).1, (B i hd s).1, (B i hd s).2)
        have hb : PR (B i hd s) = _ := hB i hi hdi hd s
        rw [if_pos h7, ← hb, hst, hnx]
        simp only [PR] at ht ⊢
        rw [ht]
        have hy : tryR T p B (tryFrom p i) hd s = ((tryGo T p B hd (tryRest p d (endOf p i)) ((B i hd s).1, (B i hd s).1, (B i hd s).2)).1, (tryGo T p B hd (tryRest p d (endOf p i)) ((B i hd s).1, (B i hd s).1, (B i hd s).2)).2.2) := by
          unfold tryR tryFrom; rw [hdi]; rfl
        rw [hy]
        simp only []
        split
        · rfl
        · by_cases hq : endOf p i < to
          · have hcl : Cl p d (tryEnd p d (endOf p i)) to := (try_spec hP _ _ rfl hn.2 fun _ => (hdAt_of (head_next h hi)).2 (.inl h7)).cl
            have hge := (try_spec hP _ _ rfl hn.2 fun _ => (hdAt_of (head_next h hi)).2 (.inl h7)).ge
            exact ih (to - tryEnd p d (endOf p i)) (by omega) _ rfl hcl _
          · have he : endOf p i = to := by omega
            have hno : ¬ (endOf p i < p.length ∧ (ln p (endOf p i)).depth = d ∧ follows (ln p (endOf p i)).kind = true) := by
              rw [he]; rcases h.stop with h1 | h1 <;> omega
            rw [tryEnd_no hno]
            exact ih (to - endOf p i) (by omega) _ rfl hn.2 _
      · have hst : stepR T p B i hd s = lineR p B i hd s := by unfold stepR; rw [if_neg h7]
        have hnx : nextR p i = endOf p i := by unfold nextR; rw [if_neg h7]
        have hl := line_pr (hB i hi hdi) hd s
        rw [if_neg h7, hst, hnx]
        rcases hfs : lineR p B i hd s with ⟨e, s'⟩
        rw [hfs] at hl
        rw [show fline (frun T (fparse (seg p (i + 1) (endOf p i))) none) (ln p i).kind (ln p i).a (ln p i).b hd (pr s) = (e, pr s') from hl.symm]
        simp only []
        by_cases hc : e.e ≠ 0
        · rw [if_pos hc, if_pos hc]; rfl
        · rw [if_neg hc, if_neg hc]; exact ih (to - endOf p i) (by omega) _ rfl hn.2 _
    · rw [seg_nil (by omega), fparse_nil, linesR_out hi]; rfl
/-- The machine's run of a block. -/
theorem block_pr (hP : Pl p) (h5 : ∀ i, i < p.length → (ln p i).depth ≤ 5) {T : Tree} : ∀ (n k : Nat), k < p.length → 5 < (ln p k).depth + n → BF T p (blockR T p n) k
  | 0, k, h, h1 => by have := h5 k h; omega
  | n + 1, k, h, h1 => fun hd s => by
    have hcl : Cl p ((ln p k).depth + 1) (k + 1) (endOf p k) := by
      have hg := endOf_gt p k
      refine ⟨hg, endOf_le p h, fun x h2 h3 => by have := endOf_in (p := p) (i := k) h2 h3; omega, fun h2 => ?_, ?_⟩
      · have h3 := endOf_in (p := p) (i := k) (x := k + 1) (by omega) h2
        have hle := endOf_le p h
        by_cases ho : opens (ln p k).kind = true
        · exact hP.o k (by omega) ho
        · have := hP.n k (by omega) (by simpa using ho); omega
      · rcases endOf_stop (p := p) h with h2 | h2
        · exact .inl h2
        · exact .inr (by omega)
    have hle := endOf_le p h
    exact lines_pr hP (fun x hx hxd => block_pr hP h5 n x (by omega) (by omega)) hd _ _ rfl hcl s
theorem run_pr (hP : Pl p) (h5 : ∀ i, i < p.length → (ln p i).depth ≤ 5) {T : Tree} {n : Nat} (hn : 5 < n) (hd : Int) (s : St) : PR (linesR T p (blockR T p n) p.length 0 hd s) = frun T (fparse p) none hd (pr s) := by
  have := lines_pr hP (T := T) (B := blockR T p n) (fun x hx _ => block_pr hP h5 n x hx (by have := hP.nn x hx; omega)) hd _ _ rfl (cl_all hP) s
  rwa [seg_all] at this
end

/-! ### how much a run tells and raises -/
def fcost : F → Nat
  | .nil => 0
  | .node _ _ _ body rest => 2 + 3 * fcost body + fcost rest
/-- Loops go round three times at most. -/
def floops : F → Prop
  | .nil => True
  | .node k a _ body rest => (k = 12 → a.toNat ≤ 3) ∧ floops body ∧ floops rest
def ssize (s : S2) : Nat := s.log.length + s.flt.length
theorem floop_size {f : S2 → En × S2} {c : Nat} (h : ∀ s, ssize (f s).2 ≤ ssize s + c) : ∀ (n : Nat) (s : S2), ssize (floop f n s).2 ≤ ssize s + n * c
  | 0, s => by simp [floop]
  | n + 1, s => by
    have h1 := h s
    have h2 := floop_size h n (f s).2
    unfold floop
    simp only []
    split
    · rw [Nat.add_mul]; omega
    · split
      · simp only []; rw [Nat.add_mul]; omega
      · rw [Nat.add_mul]; omega
theorem fline_size {f : Rf} {c : Nat} (h : ∀ hd s, ssize (f hd s).2 ≤ ssize s + c) {k a b : Int} (ha : k = 12 → a.toNat ≤ 3) (hd : Int) (s : S2) : ssize (fline f k a b hd s).2 ≤ ssize s + (2 + 3 * c) := by
  have ht : ∀ s n, ssize (ftell s n) = ssize s + 1 := fun s n => by simp [ssize, ftell]; omega
  have hr : ∀ s x y z, ssize (ftoss s x y z) = ssize s + 1 := fun s x y z => by simp [ssize, ftoss, raiseF]; omega
  unfold fline
  simp only []
  split
  · rw [ht]; omega
  split
  · rw [hr]; omega
  split
  · split
    · rw [hr]; omega
    · simp only []; omega
  split
  · simp only []; omega
  split
  · simp only []; omega
  split
  · simp only []; omega
  split
  · rw [ht]; have := h hd (ftell s (100 + a)); rw [ht] at this; omega
  split
  · rename_i hk
    have := floop_size (fun s => h hd s) a.toNat s
    have h3 := ha hk
    have : a.toNat * c ≤ 3 * c := Nat.mul_le_mul_right _ h3
    omega
  · simp only []; omega
theorem fpart_size {T : Tree} {f : Rf} {c : Nat} (h : ∀ hd s, ssize (f hd s).2 ≤ ssize s + c) (k a hd : Int) (x : En × En × S2) : ssize (fpart T f k a hd x).2.2 ≤ ssize x.2.2 + c := by
  unfold fpart
  simp only []
  split
  · split
    · exact h _ _
    · omega
  split
  · split
    · exact h _ _
    · omega
  split
  · exact h _ _
  · omega
theorem frun_size (T : Tree) : ∀ (f : F), floops f → ∀ m hd s, ssize (frun T f m hd s).2 ≤ ssize s + fcost f
  | .nil, _, none, hd, s => by simp [frun]
  | .nil, _, some x, hd, s => by simp only [frun]; split <;> simp
  | .node k a b body rest, h, m, hd, s => by
    have h1 := frun_size T body h.2.1 none
    have h2 := frun_size T rest h.2.2
    have hgo : ∀ s, ssize (if k = 7 then let x := frun T body none hd s; frun T rest (some (x.1, x.1)) hd x.2 else let x := fline (frun T body none) k a b hd s; if x.1.e ≠ 0 then x else frun T rest none hd x.2).2 ≤ ssize s + (2 + 3 * fcost body + fcost rest) := by
      intro s
      simp only []
      split
      · have := h1 hd s
        have := h2 (some ((frun T body none hd s).1, (frun T body none hd s).1)) hd (frun T body none hd s).2
        omega
      · have h3 := fline_size h1 h.1 hd s (b := b)
        split
        · omega
        · have := h2 none hd (fline (frun T body none) k a b hd s).2
          omega
    cases m with
    | none => simp only [frun, fcost]; exact hgo s
    | some m =>
      simp only [frun, fcost]
      split
      · have h3 := fpart_size (T := T) h1 k a hd (m.1, m.2, s)
        simp only [] at h3
        have := h2 (some ((fpart T (frun T body none) k a hd (m.1, m.2, s)).1, (fpart T (frun T body none) k a hd (m.1, m.2, s)).2.1)) hd (fpart T (frun T body none) k a hd (m.1, m.2, s)).2.2
        omega
      · split
        · simp only []; omega
        · exact hgo s
theorem floops_seg {p : Prg} (hP : Pl p) (ha : ∀ i, i < p.length → (ln p i).kind = 12 → (ln p i).a.toNat ≤ 3) : ∀ (m : Nat) (d : Int) (i to : Nat), to - i = m → Cl p d i to → floops (fparse (seg p i to)) := by
  intro m
  induction m using Nat.strongRecOn with
  | ind m ih =>
    intro d i to hm h
    by_cases hi : i < to
    · have hn := h.next hi
      have hg := endOf_gt p i
      have hl := h.len
      rw [fparse_seg h hi]
      exact ⟨ha i (by omega), ih _ (by omega) (d + 1) (i + 1) (endOf p i) rfl (h.child hP hi), ih _ (by omega) d (endOf p i) to rfl hn.2⟩
    · rw [seg_nil (by omega), fparse_nil]; trivial
theorem fcost_seg {p : Prg} (hP : Pl p) (h5 : ∀ i, i < p.length → (ln p i).depth ≤ 5) : ∀ (m : Nat) (d : Int) (i to c : Nat), to - i = m → Cl p d i to → (i < to → d + c = 5) → fcost (fparse (seg p i to)) ≤ 2 * 3 ^ c * (to - i) := by
  intro m
  induction m using Nat.strongRecOn with
  | ind m ih =>
    intro d i to c hm h hc
    by_cases hi : i < to
    · have hn := h.next hi
      have hg := endOf_gt p i
      have hl := h.len
      have hc := hc hi
      rw [fparse_seg h hi]
      have h2 := ih _ (by omega) d (endOf p i) to c rfl hn.2 fun _ => hc
      have h1 : 3 * fcost (fparse (seg p (i + 1) (endOf p i))) ≤ 2 * 3 ^ c * (endOf p i - (i + 1)) := by
        by_cases hb : i + 1 < endOf p i
        · have hd1 := (h.child hP hi).at_ hb
          have := h5 (i + 1) (by omega)
          obtain ⟨c, rfl⟩ : ∃ c', c = c' + 1 := ⟨c - 1, by omega⟩
          have := ih _ (by omega) (d + 1) (i + 1) (endOf p i) c rfl (h.child hP hi) (fun _ => by omega)
          rw [Nat.pow_succ]
          calc 3 * fcost (fparse (seg p (i + 1) (endOf p i))) ≤ 3 * (2 * 3 ^ c * (endOf p i - (i + 1))) := Nat.mul_le_mul_left _ this
            _ = 2 * (3 ^ c * 3) * (endOf p i - (i + 1)) := by rw [← Nat.mul_assoc]; congr 1; omega
        · rw [seg_nil (by omega), fparse_nil]; simp [fcost]
      have hp : 1 ≤ 3 ^ c := Nat.one_le_pow _ _ (by omega)
      have e : 2 * 3 ^ c * (to - i) = 2 * 3 ^ c + 2 * 3 ^ c * (endOf p i - (i + 1)) + 2 * 3 ^ c * (to - endOf p i) := by
        have : to - i = 1 + (endOf p i - (i + 1)) + (to - endOf p i) := by omega
        rw [this, Nat.mul_add, Nat.mul_add]; omega
      simp only [fcost]
      rw [e]
      omega
    · rw [seg_nil (by omega), fparse_nil]; simp [fcost]
end Go.Proofs.Ytihjakpedbaokaa.K
namespace Go.Proofs.Ytihjakpedbaokaa.K

/-! ### lowering lines -/
def lowI : Prg → Prg
  | [] => []
  | l :: r =>
    if l.kind = 11 ∧ l.b = 0 then
      ⟨l.depth, 1, l.a, 0⟩ :: ⟨l.depth, 7, 0, 0⟩ :: (lowI (r.takeWhile (deep l.depth)) ++ ⟨l.depth, 10, 0, 0⟩ :: ⟨l.depth + 1, 1, l.a, 0⟩ :: lowI (r.dropWhile (deep l.depth)))
    else l :: (lowI (r.takeWhile (deep l.depth)) ++ lowI (r.dropWhile (deep l.depth)))
  termination_by p => p.length
  decreasing_by all_goals first | exact Nat.lt_succ_of_le (takeWhile_len _ _) | exact Nat.lt_succ_of_le (dropWhile_len _ _)
/-- spec. -/
def lowS : Prg → Prg
  | [] => []
  | l :: r =>
    if l.kind ≠ 11 ∨ l.b = 1 then l :: lowS r
    else ⟨l.depth, 1, l.a, 0⟩ :: ⟨l.depth, 7, 0, 0⟩ :: (lowS (r.takeWhile (deep l.depth)) ++ ⟨l.depth, 10, 0, 0⟩ :: ⟨l.depth + 1, 1, l.a, 0⟩ :: lowS (r.dropWhile (deep l.depth)))
  termination_by p => p.length
  decreasing_by all_goals first | exact Nat.lt_succ_self _ | exact Nat.lt_succ_of_le (takeWhile_len _ _) | exact Nat.lt_succ_of_le (dropWhile_len _ _)
theorem lowI_nil : lowI [] = [] := by rw [lowI]
theorem lowS_nil : lowS [] = [] := by rw [lowS]
theorem lowI_with {l : Line} {r : Prg} (h : l.kind = 11 ∧ l.b = 0) : lowI (l :: r) = ⟨l.depth, 1, l.a, 0⟩ :: ⟨l.depth, 7, 0, 0⟩ :: (lowI (r.takeWhile (deep l.depth)) ++ ⟨l.depth, 10, 0, 0⟩ :: ⟨l.depth + 1, 1, l.a, 0⟩ :: lowI (r.dropWhile (deep l.depth))) := by rw [lowI, if_pos h]
theorem lowI_other {l : Line} {r : Prg} (h : ¬ (l.kind = 11 ∧ l.b = 0)) : lowI (l :: r) = l :: (lowI (r.takeWhile (deep l.depth)) ++ lowI (r.dropWhile (deep l.depth))) := by rw [lowI, if_neg h]
theorem lowS_with {l : Line} {r : Prg} (h : ¬ (l.kind ≠ 11 ∨ l.b = 1)) : lowS (l :: r) = ⟨l.depth, 1, l.a, 0⟩ :: ⟨l.depth, 7, 0, 0⟩ :: (lowS (r.takeWhile (deep l.depth)) ++ ⟨l.depth, 10, 0, 0⟩ :: ⟨l.depth + 1, 1, l.a, 0⟩ :: lowS (r.dropWhile (deep l.depth))) := by rw [lowS, if_neg h]
theorem lowS_other {l : Line} {r : Prg} (h : l.kind ≠ 11 ∨ l.b = 1) : lowS (l :: r) = l :: lowS r := by rw [lowS, if_pos h]

theorem mem_takeWhile {α : Type} {f : α → Bool} {x : α} : ∀ {l : List α}, x ∈ l.takeWhile f → f x = true ∧ x ∈ l
  | [], h => by simp at h
  | y :: l, h => by
    rw [List.takeWhile_cons] at h
    split at h
    · rename_i hy
      rcases List.mem_cons.1 h with rfl | h
      · exact ⟨hy, List.mem_cons_self⟩
      · have := mem_takeWhile h; exact ⟨this.1, List.mem_cons_of_mem _ this.2⟩
    · cases h
theorem mem_dropWhile {α : Type} {f : α → Bool} {x : α} : ∀ {l : List α}, x ∈ l.dropWhile f → x ∈ l
  | [], h => by simp at h
  | y :: l, h => by
    rw [List.dropWhile_cons] at h
    split at h
    · exact List.mem_cons_of_mem _ (mem_dropWhile h)
    · exact h
theorem takeWhile_app {α : Type} {f : α → Bool} : ∀ {x y : List α}, (∀ u ∈ x, f u = true) → (∀ u, y.head? = some u → f u = false) → (x ++ y).takeWhile f = x ∧ (x ++ y).dropWhile f = y
  | [], [], _, _ => by simp
  | [], u :: y, _, h => by simp [h u rfl]
  | u :: x, y, h, h2 => by
    have := takeWhile_app (x := x) (y := y) (fun v hv => h v (List.mem_cons_of_mem _ hv)) h2
    rw [List.cons_append, List.takeWhile_cons, List.dropWhile_cons, h u List.mem_cons_self]
    exact ⟨by simp [this.1], by simp [this.2]⟩
theorem dropWhile_head {α : Type} {f : α → Bool} {u : α} : ∀ {l : List α}, (l.dropWhile f).head? = some u → f u = false
  | [], h => by simp at h
  | y :: l, h => by
    rw [List.dropWhile_cons] at h
    split at h
    · exact dropWhile_head h
    · rename_i hy
      simp at h; subst h; simpa using hy
theorem lowI_deep {d : Int} : ∀ (n : Nat) (p : Prg), p.length = n → (∀ u ∈ p, deep d u = true) → ∀ u ∈ lowI p, deep d u = true := by
  intro n
  induction n using Nat.strongRecOn with
  | ind n ih =>
    intro p hn h u hu
    cases p with
    | nil => rw [lowI_nil] at hu; cases hu
    | cons l r =>
      have hl := h l List.mem_cons_self
      have ht := ih _ (by rw [← hn]; exact Nat.lt_succ_of_le (takeWhile_len (deep l.depth) r)) _ rfl (fun u hu => h u (List.mem_cons_of_mem _ (mem_takeWhile hu).2))
      have hd := ih _ (by rw [← hn]; exact Nat.lt_succ_of_le (dropWhile_len (deep l.depth) r)) _ rfl (fun u hu => h u (List.mem_cons_of_mem _ (mem_dropWhile hu)))
      have hl2 : d < l.depth := by unfold deep at hl; simpa using hl
      by_cases hc : l.kind = 11 ∧ l.b = 0
      · rw [lowI_with hc] at hu
        simp only [List.mem_cons, List.mem_append] at hu
        rcases hu with rfl | rfl | hu | rfl | rfl | hu
        · simp [deep, hl2]
        · simp [deep, hl2]
        · exact ht u hu
        · simp [deep, hl2]
        · simp [deep]; omega
        · exact hd u hu
      · rw [lowI_other hc] at hu
        simp only [List.mem_cons, List.mem_append] at hu
        rcases hu with rfl | hu | hu
        · exact hl
        · exact ht u hu
        · exact hd u hu
theorem lowI_head (p : Prg) : (lowI p).head?.map (·.depth) = p.head?.map (·.depth) := by
  cases p with
  | nil => rw [lowI_nil]
  | cons l r =>
    by_cases hc : l.kind = 11 ∧ l.b = 0
    · rw [lowI_with hc]; rfl
    · rw [lowI_other hc]; rfl
theorem lowI_stop {d : Int} {p : Prg} (h : ∀ u, p.head? = some u → deep d u = false) : ∀ u, (lowI p).head? = some u → deep d u = false := by
  intro u hu
  have := lowI_head p
  rw [hu] at this
  simp only [Option.map_some] at this
  obtain ⟨v, hv, e⟩ := Option.map_eq_some_iff.1 this.symm
  have := h v hv
  unfold deep at this ⊢
  rw [← e]; exact this
/-- A forest, lowered. -/
def lowF : F → F
  | .nil => .nil
  | .node k a b body rest =>
    if k = 11 ∧ b = 0 then .node 1 a 0 .nil (.node 7 0 0 (lowF body) (.node 10 0 0 (.node 1 a 0 .nil .nil) (lowF rest)))
    else .node k a b (lowF body) (lowF rest)
theorem fparse_app {l : Line} {x y : Prg} (hx : ∀ u ∈ x, deep l.depth u = true) (hy : ∀ u, y.head? = some u → deep l.depth u = false) : fparse (l :: (x ++ y)) = .node l.kind l.a l.b (fparse x) (fparse y) := by
  have := takeWhile_app hx hy
  rw [fparse_cons, this.1, this.2]
theorem fparse_low : ∀ (n : Nat) (p : Prg), p.length = n → fparse (lowI p) = lowF (fparse p) := by
  intro n
  induction n using Nat.strongRecOn with
  | ind n ih =>
    intro p hn
    cases p with
    | nil => rw [lowI_nil, fparse_nil]; rfl
    | cons l r =>
      have ht := ih _ (by rw [← hn]; exact Nat.lt_succ_of_le (takeWhile_len (deep l.depth) r)) _ rfl
      have hd := ih _ (by rw [← hn]; exact Nat.lt_succ_of_le (dropWhile_len (deep l.depth) r)) _ rfl
      have h1 : ∀ u ∈ lowI (r.takeWhile (deep l.depth)), deep l.depth u = true := lowI_deep _ _ rfl fun u hu => (mem_takeWhile hu).1
      have h2 : ∀ u, (lowI (r.dropWhile (deep l.depth))).head? = some u → deep l.depth u = false := lowI_stop fun u hu => dropWhile_head hu
      rw [fparse_cons]
      by_cases hc : l.kind = 11 ∧ l.b = 0
      · rw [lowI_with hc]
        simp only [lowF]
        rw [if_pos hc, ← ht, ← hd]
        have e1 : ∀ y : Prg, fparse (⟨l.depth, 1, l.a, 0⟩ :: ⟨l.depth, 7, 0, 0⟩ :: y) = .node 1 l.a 0 .nil (fparse (⟨l.depth, 7, 0, 0⟩ :: y)) := fun y => by
          have := fparse_app (l := ⟨l.depth, 1, l.a, 0⟩) (x := []) (y := ⟨l.depth, 7, 0, 0⟩ :: y) (fun u hu => by cases hu) (fun u hu => by simp at hu; subst hu; simp [deep])
          rw [List.nil_append, fparse_nil] at this; exact this
        have e2 : fparse (⟨l.depth, 10, 0, 0⟩ :: ⟨l.depth + 1, 1, l.a, 0⟩ :: lowI (r.dropWhile (deep l.depth))) = .node 10 0 0 (fparse [⟨l.depth + 1, 1, l.a, 0⟩]) (fparse (lowI (r.dropWhile (deep l.depth)))) :=
          fparse_app (l := ⟨l.depth, 10, 0, 0⟩) (x := [⟨l.depth + 1, 1, l.a, 0⟩]) (fun u hu => by simp at hu; subst hu; simp [deep]; omega) h2
        have e3 : fparse [⟨l.depth + 1, 1, l.a, 0⟩] = .node 1 l.a 0 .nil .nil := by rw [fparse_cons]; simp [fparse_nil]
        rw [e1, fparse_app (l := ⟨l.depth, 7, 0, 0⟩) h1 (fun u hu => by simp at hu; subst hu; simp [deep]), e2, e3]
      · rw [lowI_other hc, fparse_app h1 h2, ht, hd]
        simp only [lowF]
        rw [if_neg hc]
theorem lowS_app {d : Int} : ∀ (n : Nat) (x y : Prg), x.length = n → (∀ u ∈ x, deep d u = true) → (∀ u, y.head? = some u → deep d u = false) → lowS (x ++ y) = lowS x ++ lowS y := by
  intro n
  induction n using Nat.strongRecOn with
  | ind n ih =>
    intro x y hn hx hy
    cases x with
    | nil => rw [lowS_nil]; rfl
    | cons l r =>
      have hl := hx l List.mem_cons_self
      have hr : ∀ u ∈ r, deep d u = true := fun u hu => hx u (List.mem_cons_of_mem _ hu)
      by_cases hc : l.kind ≠ 11 ∨ l.b = 1
      · rw [List.cons_append, lowS_other hc, lowS_other hc, ih r.length (by rw [← hn]; exact Nat.lt_succ_self _) r y rfl hr hy]; rfl
      · have hd : d < l.depth := by unfold deep at hl; simpa using hl
        have hy2 : ∀ u, y.head? = some u → deep l.depth u = false := fun u hu => by have := hy u hu; unfold deep at this ⊢; simp at this ⊢; omega
        have e : ∀ r : Prg, (r ++ y).takeWhile (deep l.depth) = r.takeWhile (deep l.depth) ∧ (r ++ y).dropWhile (deep l.depth) = r.dropWhile (deep l.depth) ++ y := by
          intro r
          induction r with
          | nil => have := takeWhile_app (x := []) (y := y) (f := deep l.depth) (fun u hu => by cases hu) hy2; exact this
          | cons u r ihr =>
            rw [List.cons_append, List.takeWhile_cons, List.dropWhile_cons, List.takeWhile_cons, List.dropWhile_cons]
            cases deep l.depth u with
            | true => simp [ihr.1, ihr.2]
            | false => simp
        rw [List.cons_append, lowS_with hc, lowS_with hc, (e r).1, (e r).2, ih _ (by rw [← hn]; exact Nat.lt_succ_of_le (dropWhile_len (deep l.depth) r)) _ y rfl (fun u hu => hr u (mem_dropWhile hu)) hy]
        simp
theorem low_eq : ∀ (n : Nat) (p : Prg), p.length = n → (∀ l ∈ p, l.kind = 11 → l.b = 0 ∨ l.b = 1) → lowI p = lowS p := by
  intro n
  induction n using Nat.strongRecOn with
  | ind n ih =>
    intro p hn h
    cases p with
    | nil => rw [lowI_nil, lowS_nil]
    | cons l r =>
      have ht := ih _ (by rw [← hn]; exact Nat.lt_succ_of_le (takeWhile_len (deep l.depth) r)) _ rfl (fun u hu => h u (List.mem_cons_of_mem _ (mem_takeWhile hu).2))
      have hd := ih _ (by rw [← hn]; exact Nat.lt_succ_of_le (dropWhile_len (deep l.depth) r)) _ rfl (fun u hu => h u (List.mem_cons_of_mem _ (mem_dropWhile hu)))
      have hb := h l List.mem_cons_self
      by_cases hc : l.kind = 11 ∧ l.b = 0
      · rw [lowI_with hc, lowS_with (by omega), ht, hd]
      · rw [lowI_other hc, lowS_other (by omega), ht, hd, ← lowS_app _ _ _ rfl (fun u hu => (mem_takeWhile hu).1) (fun u hu => dropWhile_head hu), List.takeWhile_append_dropWhile]
/-- A lowered program has no line that is lowered. -/
theorem lowI_none : ∀ (n : Nat) (p : Prg), p.length = n → ∀ l ∈ lowI p, ¬ (l.kind = 11 ∧ l.b = 0) := by
  intro n
  induction n using Nat.strongRecOn with
  | ind n ih =>
    intro p hn u hu
    cases p with
    | nil => rw [lowI_nil] at hu; cases hu
    | cons l r =>
      have ht := ih _ (by rw [← hn]; exact Nat.lt_succ_of_le (takeWhile_len (deep l.depth) r)) _ rfl
      have hd := ih _ (by rw [← hn]; exact Nat.lt_succ_of_le (dropWhile_len (deep l.depth) r)) _ rfl
      by_cases hc : l.kind = 11 ∧ l.b = 0
      · rw [lowI_with hc] at hu
        simp only [List.mem_cons, List.mem_append] at hu
        rcases hu with rfl | rfl | hu | rfl | rfl | hu
        · simp
        · simp
        · exact ht u hu
        · simp
        · simp
        · exact hd u hu
      · rw [lowI_other hc] at hu
        simp only [List.mem_cons, List.mem_append] at hu
        rcases hu with rfl | hu | hu
        · exact hc
        · exact ht u hu
        · exact hd u hu
theorem lowI_len : ∀ (n : Nat) (p : Prg), p.length = n → (lowI p).length ≤ 4 * p.length := by
  intro n
  induction n using Nat.strongRecOn with
  | ind n ih =>
    intro p hn
    cases p with
    | nil => rw [lowI_nil]; simp
    | cons l r =>
      have ht := ih _ (by rw [← hn]; exact Nat.lt_succ_of_le (takeWhile_len (deep l.depth) r)) _ rfl
      have hd := ih _ (by rw [← hn]; exact Nat.lt_succ_of_le (dropWhile_len (deep l.depth) r)) _ rfl
      have e : (r.takeWhile (deep l.depth)).length + (r.dropWhile (deep l.depth)).length = r.length := by rw [← List.length_append, List.takeWhile_append_dropWhile]
      by_cases hc : l.kind = 11 ∧ l.b = 0
      · rw [lowI_with hc]; simp only [List.length_cons, List.length_append]; omega
      · rw [lowI_other hc]; simp only [List.length_cons, List.length_append]; omega

/-! ### what goes on with a try stands behind one -/
def wfF : Bool → F → Prop
  | _, .nil => True
  | m, .node k _ _ body rest => (follows k = true → m = true) ∧ wfF false body ∧ wfF (k == 7 || follows k) rest
theorem wfF_seg {p : Prg} (hP : Pl p) (hC : ∀ k, k < p.length → CC p k) : ∀ (m : Nat) (d : Int) (i to : Nat) (b : Bool), to - i = m → Cl p d i to → (i < to → hdAt p d i → b = true) → wfF b (fparse (seg p i to)) := by
  intro m
  induction m using Nat.strongRecOn with
  | ind m ih =>
    intro d i to b hm h hb
    by_cases hi : i < to
    · have hn := h.next hi
      have hg := endOf_gt p i
      have hl := h.len
      have hd := h.at_ hi
      rw [fparse_seg h hi]
      refine ⟨fun hf => hb hi ?_, ih _ (by omega) (d + 1) (i + 1) (endOf p i) false rfl (h.child hP hi) (fun _ hx => ?_), ih _ (by omega) d (endOf p i) to _ rfl hn.2 (fun _ hx => ?_)⟩
      · have := headed_iff.1 ((hC i (by omega)).2.2 hf); rwa [hd] at this
      · unfold hdAt at hx; rw [headGo_child (by omega)] at hx; omega
      · have := (hdAt_of (head_next h hi)).1 hx
        simp
        exact this
    · rw [seg_nil (by omega), fparse_nil]; trivial
theorem wfF_head {f : F} (h : wfF false f) : fheadF f = false := by
  cases f with
  | nil => rfl
  | node k a b body rest =>
    show follows k = false
    rw [Bool.eq_false_iff]; exact fun hf => by have := h.1 hf; cases this
theorem lowF_head {f : F} (h : fheadF f = false) : fheadF (lowF f) = false := by
  cases f with
  | nil => rfl
  | node k a b body rest =>
    simp only [lowF]
    split
    · rfl
    · exact h

/-! ### a lowered forest does the same -/
def low (l : List Int) : List Int := l.map (· % 100)
structure Sim (s s' : S2) : Prop where
  flt : s'.flt = s.flt
  log : low s'.log = low s.log
theorem Sim.refl (s : S2) : Sim s s := ⟨rfl, rfl⟩
def SimR (x y : En × S2) : Prop := y.1 = x.1 ∧ Sim x.2 y.2
theorem sim_tell {s s' : S2} (h : Sim s s') {m n : Int} (e : m % 100 = n % 100) : Sim (ftell s n) (ftell s' m) := ⟨h.flt, by show low (s'.log ++ [m]) = low (s.log ++ [n]); unfold low; rw [List.map_append, List.map_append, show s'.log.map (· % 100) = s.log.map (· % 100) from h.log]; simp [e]⟩
theorem sim_toss {s s' : S2} (h : Sim s s') (c k hd : Int) : Sim (ftoss s c k hd) (ftoss s' c k hd) := ⟨by show raiseF s'.flt c k hd = raiseF s.flt c k hd; rw [h.flt], h.log⟩
theorem floop_sim {f g : S2 → En × S2} (h : ∀ s s', Sim s s' → SimR (f s) (g s')) : ∀ (n : Nat) (s s' : S2), Sim s s' → SimR (floop f n s) (floop g n s')
  | 0, _, _, hs => ⟨rfl, hs⟩
  | n + 1, s, s', hs => by
    have h1 := h s s' hs
    unfold floop
    rcases hx : f s with ⟨e, t⟩
    rcases hy : g s' with ⟨e', t'⟩
    rw [hx, hy] at h1
    obtain ⟨h1, h2⟩ := h1
    simp only [] at h1 h2
    subst h1
    simp only []
    split
    · exact ⟨rfl, h2⟩
    · split
      · exact ⟨rfl, h2⟩
      · exact floop_sim h n t t' h2
theorem fline_sim {f g : Rf} (h : ∀ hd s s', Sim s s' → SimR (f hd s) (g hd s')) (k a b hd : Int) {s s' : S2} (hs : Sim s s') : SimR (fline f k a b hd s) (fline g k a b hd s') := by
  unfold fline
  simp only []
  split
  · exact ⟨rfl, sim_tell hs rfl⟩
  split
  · exact ⟨by rw [hs.flt], sim_toss hs _ _ _⟩
  split
  · split
    · exact ⟨by rw [hs.flt], sim_toss hs _ _ _⟩
    · exact ⟨rfl, hs⟩
  split
  · exact ⟨rfl, hs⟩
  split
  · exact ⟨rfl, hs⟩
  split
  · exact ⟨rfl, hs⟩
  split
  · have h1 := h hd _ _ (sim_tell hs (m := 100 + a) (n := 100 + a) rfl)
    refine ⟨?_, sim_tell h1.2 rfl⟩
    show (if _ then _ else _) = (if _ then _ else _)
    rw [h1.1]
  split
  · exact floop_sim (h hd) _ _ _ hs
  · exact ⟨rfl, hs⟩
structure Sim3 (x y : En × En × S2) : Prop where
  e : y.1 = x.1
  st : y.2.1 = x.2.1
  s : Sim x.2.2 y.2.2
theorem fpart_sim {T : Tree} {f g : Rf} (h : ∀ hd s s', Sim s s' → SimR (f hd s) (g hd s')) (k a hd : Int) {x y : En × En × S2} (hs : Sim3 x y) : Sim3 (fpart T f k a hd x) (fpart T g k a hd y) := by
  obtain ⟨e, st, s⟩ := x
  obtain ⟨e', st', s'⟩ := y
  obtain ⟨h1, h2, h3⟩ := hs
  simp only [] at h1 h2 h3
  subst h1 h2
  unfold fpart
  simp only []
  rw [h3.flt]
  split
  · split
    · have := h st'.v s s' h3; exact ⟨this.1, rfl, this.2⟩
    · exact ⟨rfl, rfl, h3⟩
  split
  · split
    · have := h hd s s' h3; exact ⟨this.1, rfl, this.2⟩
    · exact ⟨rfl, rfl, h3⟩
  split
  · have := h (if e'.e = 2 then e'.v else hd) s s' h3
    refine ⟨?_, rfl, this.2⟩
    show (if _ then _ else _) = (if _ then _ else _)
    rw [this.1]
  · exact ⟨rfl, rfl, h3⟩
theorem frun_sim (T : Tree) : ∀ (f : F) (b : Bool), wfF b f → ∀ m hd s s', Sim s s' → SimR (frun T f m hd s) (frun T (lowF f) m hd s')
  | .nil, _, _, none, _, _, _, hs => ⟨rfl, hs⟩
  | .nil, _, _, some x, hd, s, s', hs => by
    simp only [lowF, frun]
    split
    · exact ⟨rfl, hs⟩
    · exact ⟨rfl, hs⟩
  | .node k a b body rest, bb, hw, m, hd, s, s', hs => by
    have h1 := fun hd s s' hs => frun_sim T body _ hw.2.1 none hd s s' hs
    have h2 := frun_sim T rest _ hw.2.2
    by_cases hc : k = 11 ∧ b = 0
    · obtain ⟨rfl, rfl⟩ := hc
      have hrest : fheadF (lowF rest) = false := lowF_head (wfF_head hw.2.2)
      have hgo : ∀ s s', Sim s s' → SimR (frun T (.node 11 a 0 body rest) none hd s) (frun T (lowF (.node 11 a 0 body rest)) none hd s') := by
        intro s s' hs
        have e0 : frun T (lowF (.node 11 a 0 body rest)) none hd s' = frun T (lowF rest) (some ((frun T (lowF body) none hd (ftell s' a)).1, (frun T (lowF body) none hd (ftell s' a)).1)) hd (ftell (frun T (lowF body) none hd (ftell s' a)).2 a) := by
          simp only [lowF]
          rw [if_pos ⟨trivial, trivial⟩]
          rfl
        have e1 : frun T (.node 11 a 0 body rest) none hd s = (if (frun T body none hd (ftell s (100 + a))).1.e ≠ 0 then ((frun T body none hd (ftell s (100 + a))).1, ftell (frun T body none hd (ftell s (100 + a))).2 (200 + a)) else frun T rest none hd (ftell (frun T body none hd (ftell s (100 + a))).2 (200 + a))) := by
          simp only [frun]
          rw [if_neg (by decide)]
          unfold fline
          simp
        rw [e0, e1, frun_some hrest]
        have hb := h1 hd (ftell s (100 + a)) (ftell s' a) (sim_tell hs (by omega))
        rcases hx : frun T body none hd (ftell s (100 + a)) with ⟨e, t⟩
        rcases hy : frun T (lowF body) none hd (ftell s' a) with ⟨e', t'⟩
        rw [hx, hy] at hb
        obtain ⟨hb1, hb2⟩ := hb
        simp only [] at hb1 hb2
        subst hb1
        simp only []
        have ht : Sim (ftell t (200 + a)) (ftell t' a) := sim_tell hb2 (by omega)
        by_cases he : e'.e ≠ 0
        · rw [if_pos he, if_pos he]; exact ⟨rfl, ht⟩
        · rw [if_neg he, if_neg he]; exact h2 none hd _ _ ht
      cases m with
      | none => exact hgo s s' hs
      | some m =>
        rw [frun_some (f := .node 11 a 0 body rest) rfl, frun_some (lowF_head (f := .node 11 a 0 body rest) rfl)]
        split
        · exact ⟨rfl, hs⟩
        · exact hgo s s' hs
    · have el : lowF (.node k a b body rest) = .node k a b (lowF body) (lowF rest) := by simp only [lowF]; rw [if_neg hc]
      rw [el]
      have hgo : ∀ s s', Sim s s' → SimR (frun T (.node k a b body rest) none hd s) (frun T (.node k a b (lowF body) (lowF rest)) none hd s') := by
        intro s s' hs
        simp only [frun]
        by_cases h7 : k = 7
        · rw [if_pos h7, if_pos h7]
          have hb := h1 hd s s' hs
          have := h2 (some ((frun T body none hd s).1, (frun T body none hd s).1)) hd _ _ hb.2
          rw [← hb.1] at this ⊢
          exact this
        · rw [if_neg h7, if_neg h7]
          have hb := fline_sim h1 k a b hd hs
          rcases hx : fline (frun T body none) k a b hd s with ⟨e, t⟩
          rcases hy : fline (frun T (lowF body) none) k a b hd s' with ⟨e', t'⟩
          rw [hx, hy] at hb
          obtain ⟨hb1, hb2⟩ := hb
          simp only [] at hb1 hb2
          subst hb1
          simp only []
          by_cases he : e'.e ≠ 0
          · rw [if_pos he, if_pos he]; exact ⟨rfl, hb2⟩
          · rw [if_neg he, if_neg he]; exact h2 none hd _ _ hb2
      cases m with
      | none => exact hgo s s' hs
      | some m =>
        by_cases hf : follows k = true
        · simp only [frun]
          rw [if_pos hf, if_pos hf]
          have hb := fpart_sim (T := T) h1 k a hd (x := (m.1, m.2, s)) (y := (m.1, m.2, s')) ⟨rfl, rfl, hs⟩
          have := h2 (some ((fpart T (frun T body none) k a hd (m.1, m.2, s)).1, (fpart T (frun T body none) k a hd (m.1, m.2, s)).2.1)) hd _ _ hb.s
          rw [hb.e, hb.st]
          exact this
        · have hf : follows k = false := by simpa using hf
          rw [frun_some (f := .node k a b body rest) hf, frun_some (f := .node k a b (lowF body) (lowF rest)) hf]
          split
          · exact ⟨rfl, hs⟩
          · exact hgo s s' hs
end Go.Proofs.Ytihjakpedbaokaa.K
