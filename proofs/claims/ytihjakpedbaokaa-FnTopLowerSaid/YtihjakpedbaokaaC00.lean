/- Words for walks: extensions of a world, slices that read as lists. Plain Lean over the kit alone; no program. -/
import Derived.WalkKit
import Derived.Below
import Derived.Deep.Draws
import Derived.Deep.QuietTactic
import Derived.BigQuiet
import Derived.Lib.Hide
import Derived.Test.YtihjakpedbaokaaProg
import Derived.Shelf.Abstract
namespace Go.Proofs.Ytihjakpedbaokaa.K
open Go Go.RowKit

/-! ### worlds that extend a world -/
structure Ext (W : World) where
  val : World
  ok : Below W.heap.size W val
instance extNonempty (W : World) : Nonempty (Ext W) := ⟨⟨W, Below.refl _ _⟩⟩

theorem below_drewN {B : Nat} {a w : World} (h : Below B a w) (n : Nat) : Below B a (w.drewN n) := ⟨h.os, h.tape, h.output, h.size, h.block⟩
theorem below_alloc {a w : World} (h : Below a.heap.size a w) (o : Obj) : Below a.heap.size a (w.alloc o) := h.alloc h.size o
theorem below_trans {a b c : World} (h : Below a.heap.size a b) (k : Below b.heap.size b c) : Below a.heap.size a c := h.trans (k.mono h.size)

section
variable {W : World}
theorem Ext.cell (x : Ext W) {a : Addr} {v : Value} (h : W.cell? a = some v) : x.1.cell? a = some v :=
  (x.2.cell (World.block_lt_of_cell? W a h)).trans h
theorem Ext.frozen (x : Ext W) {a : Addr} {b : Bool} (hl : a.block < W.heap.size) (h : W.frozen? a = b) : x.1.frozen? a = b := (x.2.frozen hl).trans h
theorem Ext.lt (x : Ext W) {n : Nat} (h : n < W.heap.size) : n < x.1.heap.size := Nat.lt_of_lt_of_le h x.2.size
theorem Ext.step {x : Ext W} {w' : World} (h : Below x.1.heap.size x.1 w') : ∃ y : Ext W, w' = y.1 := ⟨⟨w', below_trans x.2 h⟩, rfl⟩
theorem Ext.step0 {w' : World} (h : Below W.heap.size W w') : ∃ y : Ext W, w' = y.1 := ⟨⟨w', h⟩, rfl⟩
variable {P : Program} {f : FuncId} {args : Array Value} {v : Value}
theorem calls_val {w : World} {v' : Value} {B : World → Prop} (h : Calls P f args w fun e w' => e = .returned v ∧ B w') (he : v = v') : Calls P f args w fun e w' => e = .returned v' ∧ B w' := by subst he; exact h
/-- A contract met in a world that extends W. -/
theorem calls_ext {x : Ext W} (h : Calls P f args x.1 fun e w' => e = .returned v ∧ Below x.1.heap.size x.1 w') :
    Calls P f args x.1 fun e w' => e = .returned v ∧ ∃ y : Ext W, w' = y.1 := h.mono fun _ _ ⟨he, hb⟩ => ⟨he, Ext.step hb⟩
theorem calls_ext0 (h : Calls P f args W fun e w' => e = .returned v ∧ Below W.heap.size W w') :
    Calls P f args W fun e w' => e = .returned v ∧ ∃ y : Ext W, w' = y.1 := h.mono fun _ _ ⟨he, hb⟩ => ⟨he, Ext.step0 hb⟩
end

/-- A region that draws its order, whose own operations only read and whose calls hand back one value in every world that extends W. -/
theorem wp_region_ext_lit {P : Program} {W : World} {id : Nat} {Q : Exit → Act → World → Prop} {a : Act} {l : List Oper} (hm : P.follows .mixedOrders = true) (hB : Region.lexB .any l.toArray = true)
    (h : wpQuiet P l.toArray (fun w' => ∃ x : Ext W, w' = x.1) (fun a' => ∀ w', (∃ x : Ext W, w' = x.1) → Q .normal a' w') l a) : (Code.region id l.toArray true).wp P Q a W :=
  wp_region_quiet (C := fun w' => ∃ x : Ext W, w' = x.1) hm hB ⟨⟨W.drew, (Below.refl _ _).drew⟩, rfl⟩ (by simpa using h)
theorem wp_region_ext_lit' {P : Program} {W : World} (x : Ext W) {id : Nat} {Q : Exit → Act → World → Prop} {a : Act} {l : List Oper} (hm : P.follows .mixedOrders = true) (hB : Region.lexB .any l.toArray = true)
    (h : wpQuiet P l.toArray (fun w' => ∃ x : Ext W, w' = x.1) (fun a' => ∀ w', (∃ x : Ext W, w' = x.1) → Q .normal a' w') l a) : (Code.region id l.toArray true).wp P Q a x.1 :=
  wp_region_quiet (C := fun w' => ∃ x : Ext W, w' = x.1) hm hB ⟨⟨x.1.drew, x.2.drew⟩, rfl⟩ (by simpa using h)

/-! ### slices that read as lists -/
theorem block_of_add (a : Addr) (n : Nat) : (a.add n).block = a.block := by unfold Addr.add; split <;> rfl
theorem add_of_add (a : Addr) (i j : Nat) : (a.add i).add j = a.add (i + j) := by
  unfold Addr.add
  by_cases hi : i = 0 <;> by_cases hj : j = 0 <;> simp [hi, hj, Nat.add_assoc]
theorem add_field (a : Addr) (n j : Nat) (h : 0 < j) : (⟨(a.add n).block, (a.add n).off + j, none⟩ : Addr) = a.add (n + j) := by
  unfold Addr.add
  by_cases hn : n = 0
  · subst hn; simp; intro h0; omega
  · rw [if_neg hn, if_neg (by omega)]; simp [Nat.add_assoc]

/-- The slice header at A of length xs.length reads as the list xs, each element k cells. -/
def Rd {α : Type} (enc : α → List Value) (k : Nat) (w : World) (A : Option Addr) (xs : List α) : Prop :=
  ∀ i x, xs[i]? = some x → ∃ ad, A = some ad ∧ ad.block < w.heap.size ∧ ∀ j u, (enc x)[j]? = some u → w.cell? (ad.add (i * k + j)) = some u

section
variable {α : Type} {enc : α → List Value} {k : Nat} {w w' : World} {A : Option Addr} {xs : List α}
theorem Rd.nil : Rd enc k w A [] := fun i x h => by simp at h
theorem Rd.below {B : Nat} (h : Rd enc k w A xs) (hb : Below B w w') (hB : ∀ ad, A = some ad → ad.block < B) : Rd enc k w' A xs := fun i x hi => by
  obtain ⟨ad, e, hl, hc⟩ := h i x hi
  exact ⟨ad, e, Nat.lt_of_lt_of_le hl hb.size, fun j u hu => (hb.cell (by rw [block_of_add]; exact hB ad e)).trans (hc j u hu)⟩
theorem Rd.ext (h : Rd enc k w A xs) (x : Ext w) : Rd enc k x.1 A xs := fun i y hi => by
  obtain ⟨ad, e, hl, hc⟩ := h i y hi
  exact ⟨ad, e, Nat.lt_of_lt_of_le hl x.2.size, fun j u hu => x.cell (hc j u hu)⟩
theorem Rd.alloc (h : Rd enc k w A xs) (o : Obj) : Rd enc k (w.alloc o) A xs := h.ext ⟨w.alloc o, below_alloc (Below.refl _ _) o⟩
theorem Rd.drew (h : Rd enc k w A xs) : Rd enc k w.drew A xs := h
theorem Rd.drewN (h : Rd enc k w A xs) (n : Nat) : Rd enc k (w.drewN n) A xs := h
theorem Rd.take (h : Rd enc k w A xs) (n : Nat) : Rd enc k w A (xs.take n) := fun i x hi => h i x (by
  rw [List.getElem?_take] at hi
  split at hi
  · exact hi
  · cases hi)
end

end Go.Proofs.Ytihjakpedbaokaa.K
namespace Go.Proofs.Ytihjakpedbaokaa.K

def within (a b c : Int) : Bool := decide (b ≤ a) && decide (a ≤ c)
def codeOk (n : Int) : Bool := within n 0 99

/-- 'good' holds from k up to n - 1. -/
def allFrom (n : Nat) (good : Nat → Bool) (k : Nat) : Bool := if k < n then good k && allFrom n good (k + 1) else true
  termination_by n - k
theorem allFrom_lt {n k : Nat} {good : Nat → Bool} (h : k < n) : allFrom n good k = (good k && allFrom n good (k + 1)) := by rw [allFrom, if_pos h]
theorem allFrom_ge {n k : Nat} {good : Nat → Bool} (h : n ≤ k) : allFrom n good k = true := by rw [allFrom, if_neg (by omega)]
theorem allFrom_iff {n : Nat} {good : Nat → Bool} : ∀ (d k : Nat), n - k = d → (allFrom n good k = true ↔ ∀ i, k ≤ i → i < n → good i = true) := by
  intro d
  induction d with
  | zero => intro k h; rw [allFrom_ge (by omega)]; exact ⟨fun _ i h1 h2 => absurd h2 (by omega), fun _ => rfl⟩
  | succ d ih =>
    intro k h
    rw [allFrom_lt (by omega), Bool.and_eq_true, ih (k + 1) (by omega)]
    constructor
    · rintro ⟨h1, h2⟩ i hi hn
      rcases Nat.lt_or_eq_of_le hi with hlt | rfl
      · exact h2 i hlt hn
      · exact h1
    · exact fun h2 => ⟨h2 k (Nat.le_refl _) (by omega), fun i hi hn => h2 i (by omega) hn⟩

structure Cls where
  name : ByteArray
  parent : Int
instance : Inhabited Cls := ⟨⟨ByteArray.empty, 0⟩⟩
abbrev Tree := List Cls
def cl (t : Tree) (i : Nat) : Cls := t.getD i default
theorem cl_get {t : Tree} {i : Nat} (h : i < t.length) : t[i]? = some (cl t i) := by simp [cl, List.getElem?_eq_getElem h]

def encC (c : Cls) : List Value := [.string c.name, .int .i64 c.parent]

def nameByte (s : ByteArray) (k : Nat) : Bool := if h : k < s.size then decide (97 ≤ s[k].toNat) && decide (s[k].toNat ≤ 122) else true
def nameOk (s : ByteArray) : Bool := allFrom s.size (nameByte s) 0 && within s.size 1 6

/-- The first place from k on at which p holds, or -1. -/
def idxFrom (n : Nat) (p : Nat → Bool) (k : Nat) : Int := if k < n then (if p k = true then (k : Int) else idxFrom n p (k + 1)) else -1
  termination_by n - k
theorem idxFrom_hit {n k : Nat} {p : Nat → Bool} (h : k < n) (hp : p k = true) : idxFrom n p k = k := by rw [idxFrom, if_pos h, if_pos hp]
theorem idxFrom_miss {n k : Nat} {p : Nat → Bool} (h : k < n) (hp : p k = false) : idxFrom n p k = idxFrom n p (k + 1) := by
  rw [idxFrom, if_pos h, if_neg (by rw [hp]; decide)]
theorem idxFrom_end {n k : Nat} {p : Nat → Bool} (h : n ≤ k) : idxFrom n p k = -1 := by rw [idxFrom, if_neg (by omega)]

def sameName (s u : ByteArray) : Bool := s.toList == u.toList
def named (t : Tree) (s : ByteArray) : Int := idxFrom t.length (fun i => sameName (cl t i).name s) 0
def clsOk (t : Tree) (i : Nat) : Bool :=
  nameOk (cl t i).name && (named t (cl t i).name == i) && (if i = 0 then (cl t i).parent == -1 else within (cl t i).parent 0 (i - 1))
def validTree (t : Tree) : Bool := allFrom t.length (clsOk t) 0 && within t.length 1 8
/-- spec: a class's own test. -/
def clsOkS (t : Tree) (i : Nat) : Bool :=
  nameOk (cl t i).name && decide (named (t.take i) (cl t i).name < 0) && (if i = 0 then (cl t i).parent == -1 else within (cl t i).parent 0 (i - 1))
def validTreeS (t : Tree) : Bool := allFrom t.length (clsOkS t) 0 && within t.length 1 8
end Go.Proofs.Ytihjakpedbaokaa.K
namespace Go.Proofs.Ytihjakpedbaokaa.K
open Go Go.RowKit

theorem within_calls (a b c : Int) (w : World) :
    Calls Try.prog 38 #[.int .i64 a, .int .i64 b, .int .i64 c] w fun e w' => e = .returned (.bool (within a b c)) ∧ Below w.heap.size w w' := by
  by_cases h : b ≤ a
  all_goals
    go_enter Try.func38, Try.ntmps38
    go_wp2
    go_ret
    exact ⟨by simp [within, h, Int.not_le.mpr]; try omega, Below.refl _ _⟩

theorem ret_bool {a b : Bool} (h : a = b) : Ending.returned (.bool a) = .returned (.bool b) := by rw [h]
theorem ret_int {k : IntKind} {a b : Int} (h : a = b) : Ending.returned (.int k a) = .returned (.int k b) := by rw [h]

set_option maxHeartbeats 400000 in
theorem nameOk_calls (s : ByteArray) (w : World) (hs : s.size ≤ 140737488351232) :
    Calls Try.prog 60 #[.string s] w fun e w' => e = .returned (.bool (nameOk s)) ∧ Below w.heap.size w w' := by
  go_enter Try.func60, Try.ntmps60
  go_wp2
  go_loopw [6] (fun v w' => ∃ k : Nat, k ≤ s.size ∧ v = .int .i64 k ∧ Hid (allFrom s.size (nameByte s) k = allFrom s.size (nameByte s) 0) ∧ Below w.heap.size w w') (fun v _ => s.size - (intOf v).toNat)
  case atStart => exact ⟨0, Nat.zero_le _, rfl, rfl, Below.refl _ _⟩
  case round =>
    obtain ⟨k, hk, rfl, hb, hx⟩ := hrel
    by_cases hlt : k < s.size
    · have HB := Lib.hid ((allFrom_lt hlt).symm.trans hb.out)
      clear hb
      have hnb : nameByte s k = (decide (97 ≤ s[k].toNat) && decide (s[k].toNat ≤ 122)) := by unfold nameByte; rw [dif_pos hlt]
      have HN := Lib.hid hnb
      clear hnb
      by_cases h1 : 97 ≤ (s[k].toNat : Int)
      · by_cases h2 : (s[k].toNat : Int) ≤ 122
        · go_wp2
          go_roundw
          case rel => exact ⟨k + 1, hlt, by go_num, Lib.hid (by have := HB.out; rw [HN.out, decide_eq_true (by omega), decide_eq_true (by omega)] at this; simpa using this), hx⟩
          case measure => simp [intOf]; omega
        · go_wp2
          go_ret
          exact ⟨ret_bool (by have := HB.out; rw [HN.out, decide_eq_true (by omega), decide_eq_false (by omega)] at this; unfold nameOk; rw [← this]; simp), hx⟩
      · go_wp2
        go_ret
        exact ⟨ret_bool (by have := HB.out; rw [HN.out, decide_eq_false (by omega)] at this; unfold nameOk; rw [← this]; simp), hx⟩
    · have hb1 := hb.out
      rw [allFrom_ge (by omega)] at hb1
      have HB := Lib.hid hb1
      clear hb hb1
      obtain ⟨x, rfl⟩ := Ext.step0 hx
      go_wp2_with (go_at_call 38; refine (calls_ext (within_calls _ _ _ _)).mono ?_; rintro e w1 ⟨rfl, y, rfl⟩)
      go_ret
      exact ⟨ret_bool (by unfold nameOk; rw [← HB.out]; simp), y.2⟩
end Go.Proofs.Ytihjakpedbaokaa.K
namespace Go.Proofs.Ytihjakpedbaokaa.K
open Go Go.RowKit

section
variable {w : World} {A : Option Addr} {t : Tree}
/-- An element's two cells, as the walk spells them. -/
theorem Rd.cls (h : Rd encC 2 w A t) {i : Nat} (hi : i < t.length) : ∃ ad, A = some ad ∧ ad.block < w.heap.size ∧ w.cell? (ad.add (i * 2)) = some (.string (cl t i).name) ∧
    w.cell? ⟨(ad.add (i * 2)).block, (ad.add (i * 2)).off + 1, none⟩ = some (.int .i64 (cl t i).parent) := by
  obtain ⟨ad, e, hl, hc⟩ := h i _ (cl_get hi)
  exact ⟨ad, e, hl, hc 0 _ rfl, by rw [add_field _ _ 1 (by omega)]; exact hc 1 _ rfl⟩
end

set_option maxHeartbeats 400000 in
theorem named_fn (nm s : ByteArray) (p : Int) (b : Nat) (w : World) (hc : w.cell? ⟨b, 0, none⟩ = some (.string s)) (hb : b < w.heap.size) :
    Calls Try.prog 95 #[.agg #[.string nm, .int .i64 p], .pointer (some ⟨b, 0, none⟩)] w fun e w' => e = .returned (.bool (sameName nm s)) ∧ Below w.heap.size w w' := by
  go_enter Try.func95, Try.ntmps95
  go_wp2
  go_ret
  exact ⟨rfl, below_alloc (Below.refl _ _) _⟩

set_option maxHeartbeats 400000 in
set_option maxRecDepth 100000 in
/-- slices.IndexFunc over classes, with a predicate. -/
theorem indexFuncC (t : Tree) (A : Option Addr) (n : Nat) (g : FuncId) (cap : Array Value) (p : Cls → Bool) (w : World) (ht : Rd encC 2 w A t) (hn : t.length ≤ 140737488351232)
    (eg : ∀ args w, (callFunc g args).run Try.prog w = .ok (.enter g args) w)
    (hp : ∀ (x : Ext w) (c : Cls), Calls Try.prog g (#[.agg #[.string c.name, .int .i64 c.parent]] ++ cap) x.1 fun e w' => e = .returned (.bool (p c)) ∧ Below x.1.heap.size x.1 w') :
    Calls Try.prog 94 #[.slice A t.length n, .func (.func g) #[] cap] w fun e w' => e = .returned (.int .i64 (idxFrom t.length (fun i => p (cl t i)) 0)) ∧ Below w.heap.size w w' := by
  have HP := Lib.hid hp
  have HT := Lib.hid ht
  clear hp ht
  go_enter Try.func94, Try.ntmps94
  go_wp2
  go_loopw [8] (fun v w' => ∃ k : Nat, k ≤ t.length ∧ v = .int .i64 k ∧ Hid (idxFrom t.length (fun i => p (cl t i)) k = idxFrom t.length (fun i => p (cl t i)) 0) ∧ Below w.heap.size w w') (fun v _ => t.length - (intOf v).toNat)
  case atStart => exact ⟨0, Nat.zero_le _, rfl, rfl, Below.refl _ _⟩
  case round =>
    obtain ⟨k, hk, rfl, hb, hx⟩ := hrel
    obtain ⟨x, rfl⟩ := Ext.step0 hx
    by_cases hlt : k < t.length
    · obtain ⟨ad, rfl, hbl, h0, h1⟩ := HT.out.cls hlt
      have g0 := x.cell h0
      have g1 := x.cell h1
      clear h0 h1
      by_cases hpk : p (cl t k) = true
      · have HK := Lib.hid hpk
        clear hpk
        go_wp2_with (refine (calls_ext (HP.out x (cl t k))).mono ?_; rw [HK.out]; rintro e w1 ⟨rfl, y, rfl⟩)
        go_ret
        exact ⟨ret_int (by rw [← hb.out, idxFrom_hit hlt HK.out]), y.2⟩
      · have HK := Lib.hid (Bool.eq_false_iff.mpr hpk)
        clear hpk
        go_wp2_with (refine (calls_ext (HP.out x (cl t k))).mono ?_; rw [HK.out]; rintro e w1 ⟨rfl, y, rfl⟩)
        go_roundw
        case rel => exact ⟨k + 1, hlt, by go_num, Lib.hid ((idxFrom_miss hlt HK.out).symm.trans hb.out), y.2⟩
        case measure => simp [intOf]; omega
    · go_wp2
      go_ret
      exact ⟨ret_int (by rw [← hb.out, idxFrom_end (by omega)]), x.2⟩

theorem enters95 : ∀ args w, (callFunc 95 args).run Try.prog w = .ok (.enter 95 args) w := enters_of Try.func95 (by kernel_rfl) rfl

set_option maxHeartbeats 400000 in
theorem named_calls (t : Tree) (A : Option Addr) (n : Nat) (s : ByteArray) (w : World) (ht : Rd encC 2 w A t) (hn : t.length ≤ 140737488351232) :
    Calls Try.prog 61 #[.agg #[.slice A t.length n], .string s] w fun e w' => e = .returned (.int .i64 (named t s)) ∧ Below w.heap.size w w' := by
  go_enter Try.func61, Try.ntmps61
  go_wp2_with (go_at_call 94; refine (indexFuncC t A n 95 #[.pointer (some ⟨w.heap.size + 1, 0, none⟩)] (fun c => sameName c.name s) _ ((ht.alloc _).alloc _) hn enters95 (fun x c => named_fn c.name s c.parent (w.heap.size + 1) x.1 (x.cell (by simp [go_sem])) (x.lt (by simp)))).mono ?_; rintro e w1 ⟨rfl, hb1⟩)
  go_ret
  exact ⟨rfl, below_trans (below_alloc (below_alloc (Below.refl _ _) _) _) hb1⟩
end Go.Proofs.Ytihjakpedbaokaa.K
namespace Go.Proofs.Ytihjakpedbaokaa.K
open Go Go.RowKit

def Sized (t : Tree) : Prop := ∀ i, i < t.length → (cl t i).name.size ≤ 140737488351232

set_option maxHeartbeats 1000000 in
set_option maxRecDepth 100000 in
theorem validTree_calls (t : Tree) (A : Option Addr) (n : Nat) (w : World) (ht : Rd encC 2 w A t) (hn : t.length ≤ 140737488351232) (hs : Sized t) :
    Calls Try.prog 36 #[.agg #[.slice A t.length n]] w fun e w' => e = .returned (.bool (validTree t)) ∧ Below w.heap.size w w' := by
  have HT := Lib.hid ht
  have HS := Lib.hid hs
  clear ht hs
  go_enter Try.func36, Try.ntmps36
  go_wp2
  go_loopw [8] (fun v w' => ∃ k : Nat, k ≤ t.length ∧ v = .int .i64 k ∧ Hid (allFrom t.length (clsOk t) k = allFrom t.length (clsOk t) 0) ∧ Below (w.heap.size + 1) (w.alloc (.cells #[.slice A t.length n] 24)) w') (fun v _ => t.length - (intOf v).toNat)
  case atStart => exact ⟨0, Nat.zero_le _, rfl, rfl, Below.refl _ _⟩
  case round =>
    obtain ⟨k, hk, rfl, hb, hx⟩ := hrel
    have hcT : wr.cell? ⟨w.heap.size, 0, none⟩ = some (.slice A t.length n) := (hx.cell (p := ⟨w.heap.size, 0, none⟩) (by simp)).trans (by simp)
    have hlt0 : w.heap.size < wr.heap.size := Nat.lt_of_lt_of_le (by simp) hx.size
    by_cases hlt : k < t.length
    · obtain ⟨ad, rfl, hbl, h0, h1⟩ := HT.out.cls hlt
      have HB := Lib.hid ((allFrom_lt hlt).symm.trans hb.out)
      clear hb
      have g0 : wr.cell? (ad.add (k * 2)) = some (.string (cl t k).name) := (hx.cell (by rw [block_of_add]; omega)).trans (by rw [World.cell?_alloc_lt _ _ _ (by rw [block_of_add]; exact hbl)]; exact h0)
      have g1 : wr.cell? ⟨(ad.add (k * 2)).block, (ad.add (k * 2)).off + 1, none⟩ = some (.int .i64 (cl t k).parent) := (hx.cell (by simp [block_of_add]; omega)).trans (by rw [World.cell?_alloc_lt _ _ _ (by simp [block_of_add]; exact hbl)]; exact h1)
      clear h0 h1
      have hsz := HS.out k hlt
      obtain ⟨nm, hnm⟩ : ∃ nm, nm = (cl t k).name := ⟨_, rfl⟩
      obtain ⟨pa, hpa⟩ : ∃ pa, pa = (cl t k).parent := ⟨_, rfl⟩
      rw [← hnm] at g0 hsz
      rw [← hpa] at g1
      have HG : Hid (clsOk t k = (nameOk nm && (named t nm == k) && (if k = 0 then pa == -1 else within pa 0 (k - 1)))) := by rw [hnm, hpa]; rfl
      clear hnm hpa
      have c1 : ∀ y : Ext (wr.alloc (.cells #[.string nm, .int .i64 pa] 86)), y.1.cell? ⟨wr.heap.size, 0, none⟩ = some (.string nm) := fun y => y.cell (by simp)
      have c2 : ∀ y : Ext (wr.alloc (.cells #[.string nm, .int .i64 pa] 86)), y.1.cell? ⟨wr.heap.size, 1, none⟩ = some (.int .i64 pa) := fun y => y.cell (by simp)
      have c3 : ∀ y : Ext (wr.alloc (.cells #[.string nm, .int .i64 pa] 86)), y.1.cell? ⟨w.heap.size, 0, none⟩ = some (.slice (some ad) t.length n) := fun y => y.cell (by rw [World.cell?_alloc_lt _ _ _ hlt0]; exact hcT)
      have HR : Hid (∀ y : Ext (wr.alloc (.cells #[.string nm, .int .i64 pa] 86)), Rd encC 2 y.1 (some ad) t) := Lib.hid fun y => (((HT.out.alloc _).below hx (by rintro _ ⟨⟩; omega)).alloc _).ext y
      have HX : Hid (∀ y : Ext (wr.alloc (.cells #[.string nm, .int .i64 pa] 86)), Below (w.heap.size + 1) (w.alloc (.cells #[.slice (some ad) t.length n] 24)) y.1) := Lib.hid fun y => hx.trans ((Below.refl _ _).alloc (by omega) _ |>.trans (y.2.mono (by simp; omega)))
      have HY : Hid (∀ y : Ext (wr.alloc (.cells #[.string nm, .int .i64 pa] 86)), Below w.heap.size w y.1) := Lib.hid fun y => (below_alloc (Below.refl _ _) _).trans ((HX.out y).mono (by omega))
      by_cases h1 : nameOk nm = true
      · have H1 := Lib.hid h1
        clear h1
        by_cases h2 : named t nm = k
        · have H2 := Lib.hid h2
          clear h2
          by_cases h0 : k = 0
          · have HK := Lib.hid h0
            have hk0 : (k : Int) ≤ 0 := by omega
            clear h0
            by_cases h3 : pa = -1
            · have H3 := Lib.hid h3
              have h3' : (pa != -1) = false := by simp [h3]
              clear h3
              go_wp2_with (first | (go_at_call 60; refine (calls_ext0 (nameOk_calls _ _ hsz)).mono ?_; rw [H1.out]; rintro e w1 ⟨rfl, y, rfl⟩) | (go_at_call 61; refine (calls_ext (named_calls t (some ad) n _ _ (HR.out y) hn)).mono ?_; rw [H2.out]; rintro e w1 ⟨rfl, y2, rfl⟩))
              go_roundw
              case rel => exact ⟨k + 1, hlt, by go_num, Lib.hid (by have := HB.out; rw [HG.out, H1.out, H2.out, if_pos HK.out, H3.out] at this; simpa using this), HX.out y2⟩
              case measure => simp [intOf]; omega
            · have H3 := Lib.hid h3
              have h3' : (pa != -1) = true := by simp [h3]
              clear h3
              go_wp2_with (first | (go_at_call 60; refine (calls_ext0 (nameOk_calls _ _ hsz)).mono ?_; rw [H1.out]; rintro e w1 ⟨rfl, y, rfl⟩) | (go_at_call 61; refine (calls_ext (named_calls t (some ad) n _ _ (HR.out y) hn)).mono ?_; rw [H2.out]; rintro e w1 ⟨rfl, y2, rfl⟩))
              go_ret
              exact ⟨ret_bool (by have := HB.out; rw [HG.out, H1.out, H2.out, if_pos HK.out, beq_eq_false_iff_ne.mpr H3.out] at this; unfold validTree; rw [← this]; simp), HY.out y2⟩
          · have HK := Lib.hid h0
            have hk0 : 0 < (k : Int) := by omega
            clear h0
            by_cases h4 : within pa 0 (k - 1) = true
            · have H4 := Lib.hid h4
              clear h4
              go_wp2_with (first | (go_at_call 60; refine (calls_ext0 (nameOk_calls _ _ hsz)).mono ?_; rw [H1.out]; rintro e w1 ⟨rfl, y, rfl⟩) | (go_at_call 61; refine (calls_ext (named_calls t (some ad) n _ _ (HR.out y) hn)).mono ?_; rw [H2.out]; rintro e w1 ⟨rfl, y2, rfl⟩) | (go_at_call 38; refine (calls_ext (within_calls _ _ _ _)).mono ?_; rw [H4.out]; rintro e w1 ⟨rfl, y3, rfl⟩))
              go_roundw
              case rel => exact ⟨k + 1, hlt, by go_num, Lib.hid (by have := HB.out; rw [HG.out, H1.out, H2.out, if_neg HK.out, H4.out] at this; simpa using this), HX.out y3⟩
              case measure => simp [intOf]; omega
            · have H4 := Lib.hid (Bool.eq_false_iff.mpr h4)
              clear h4
              go_wp2_with (first | (go_at_call 60; refine (calls_ext0 (nameOk_calls _ _ hsz)).mono ?_; rw [H1.out]; rintro e w1 ⟨rfl, y, rfl⟩) | (go_at_call 61; refine (calls_ext (named_calls t (some ad) n _ _ (HR.out y) hn)).mono ?_; rw [H2.out]; rintro e w1 ⟨rfl, y2, rfl⟩) | (go_at_call 38; refine (calls_ext (within_calls _ _ _ _)).mono ?_; rw [H4.out]; rintro e w1 ⟨rfl, y3, rfl⟩))
              go_ret
              exact ⟨ret_bool (by have := HB.out; rw [HG.out, H1.out, H2.out, if_neg HK.out, H4.out] at this; unfold validTree; rw [← this]; simp), HY.out y3⟩
        · have H2 := Lib.hid h2
          have h2' : (named t nm != (k : Int)) = true := by simp [h2]
          clear h2
          go_wp2_with (first | (go_at_call 60; refine (calls_ext0 (nameOk_calls _ _ hsz)).mono ?_; rw [H1.out]; rintro e w1 ⟨rfl, y, rfl⟩) | (go_at_call 61; refine (calls_ext (named_calls t (some ad) n _ _ (HR.out y) hn)).mono ?_; rintro e w1 ⟨rfl, y2, rfl⟩))
          go_ret
          exact ⟨ret_bool (by have := HB.out; rw [HG.out, H1.out, beq_eq_false_iff_ne.mpr H2.out] at this; unfold validTree; rw [← this]; simp), HY.out y2⟩
      · have H1 := Lib.hid (Bool.eq_false_iff.mpr h1)
        clear h1
        go_wp2_with (go_at_call 60; refine (calls_ext0 (nameOk_calls _ _ hsz)).mono ?_; rw [H1.out]; rintro e w1 ⟨rfl, y, rfl⟩)
        go_ret
        exact ⟨ret_bool (by have := HB.out; rw [HG.out, H1.out] at this; unfold validTree; rw [← this]; simp), HY.out y⟩
    · have hb1 := hb.out
      rw [allFrom_ge (by omega)] at hb1
      have HB := Lib.hid hb1
      clear hb hb1
      obtain ⟨x, rfl⟩ := Ext.step0 ((below_alloc (Below.refl w.heap.size w) _).trans (hx.mono (by omega)))
      go_wp2_with (go_at_call 38; refine (calls_ext (within_calls _ _ _ _)).mono ?_; rintro e w1 ⟨rfl, y, rfl⟩)
      go_ret
      exact ⟨ret_bool (by unfold validTree; rw [← HB.out]; simp), y.2⟩
end Go.Proofs.Ytihjakpedbaokaa.K
namespace Go.Proofs.Ytihjakpedbaokaa.K

structure Line where
  depth : Int
  kind : Int
  a : Int
  b : Int
  deriving DecidableEq
instance : Inhabited Line := ⟨⟨0, 0, 0, 0⟩⟩
abbrev Prg := List Line
def ln (p : Prg) (i : Nat) : Line := p.getD i default
theorem ln_get {p : Prg} {i : Nat} (h : i < p.length) : p[i]? = some (ln p i) := by simp [ln, List.getElem?_eq_getElem h]
def encL (l : Line) : List Value := [.int .i64 l.depth, .int .i64 l.kind, .int .i64 l.a, .int .i64 l.b]

def hasC (n : Nat) (a : Int) : Bool := within a 0 (n - 1)
def opens (k : Int) : Bool := within k 7 12
def jumps (k : Int) : Bool := within k 2 6
def follows (k : Int) : Bool := within k 8 10
/-- impl: Line.argued, n classes. -/
def argued (n : Nat) (l : Line) : Bool :=
  if l.kind = 1 ∨ l.kind = 4 then codeOk l.a && l.b == 0
  else if l.kind = 2 then hasC n l.a && codeOk l.b
  else if l.kind = 8 then hasC n l.a && l.b == 0
  else if l.kind = 11 then within l.a 0 9 && within l.b 0 1
  else if l.kind = 12 then within l.a 0 3 && l.b == 0
  else within l.kind 0 12 && l.a == 0 && l.b == 0
end Go.Proofs.Ytihjakpedbaokaa.K
namespace Go.Proofs.Ytihjakpedbaokaa.K
open Go Go.RowKit

section
variable {w : World} {A : Option Addr} {p : Prg}
/-- An element's four cells, as the walk spells them. -/
theorem Rd.line (h : Rd encL 4 w A p) {i : Nat} (hi : i < p.length) : ∃ ad, A = some ad ∧ ad.block < w.heap.size ∧ w.cell? (ad.add (i * 4)) = some (.int .i64 (ln p i).depth) ∧
    w.cell? ⟨(ad.add (i * 4)).block, (ad.add (i * 4)).off + 1, none⟩ = some (.int .i64 (ln p i).kind) ∧
    w.cell? ⟨(ad.add (i * 4)).block, (ad.add (i * 4)).off + 2, none⟩ = some (.int .i64 (ln p i).a) ∧
    w.cell? ⟨(ad.add (i * 4)).block, (ad.add (i * 4)).off + 3, none⟩ = some (.int .i64 (ln p i).b) := by
  obtain ⟨ad, e, hl, hc⟩ := h i _ (ln_get hi)
  exact ⟨ad, e, hl, hc 0 _ rfl, by rw [add_field _ _ 1 (by omega)]; exact hc 1 _ rfl, by rw [add_field _ _ 2 (by omega)]; exact hc 2 _ rfl, by rw [add_field _ _ 3 (by omega)]; exact hc 3 _ rfl⟩
end

theorem codeOk_calls (a : Int) (w : World) : Calls Try.prog 62 #[.int .i64 a] w fun e w' => e = .returned (.bool (codeOk a)) ∧ Below w.heap.size w w' := by
  go_enter Try.func62, Try.ntmps62
  go_wp2_with (go_at_call 38; refine (within_calls _ _ _ _).mono ?_; rintro e w1 ⟨rfl, hb⟩)
  go_ret
  exact ⟨rfl, hb⟩

theorem hasC_calls (t : Nat) (A : Option Addr) (n : Nat) (a : Int) (w : World) (hn : t ≤ 140737488351232) :
    Calls Try.prog 63 #[.agg #[.slice A t n], .int .i64 a] w fun e w' => e = .returned (.bool (hasC t a)) ∧ Below w.heap.size w w' := by
  go_enter Try.func63, Try.ntmps63
  go_wp2_with (go_at_call 38; refine (calls_ext0 (within_calls _ _ _ _)).mono ?_; rintro e w1 ⟨rfl, y, rfl⟩)
  go_ret
  exact ⟨rfl, below_trans (below_alloc (Below.refl _ _) _) y.2⟩

theorem opens_calls (l : Line) (w : World) : Calls Try.prog 39 #[.agg #[.int .i64 l.depth, .int .i64 l.kind, .int .i64 l.a, .int .i64 l.b]] w fun e w' => e = .returned (.bool (opens l.kind)) ∧ Below w.heap.size w w' := by
  go_enter Try.func39, Try.ntmps39
  go_wp2_with (go_at_call 38; refine (calls_ext0 (within_calls _ _ _ _)).mono ?_; rintro e w1 ⟨rfl, y, rfl⟩)
  go_ret
  exact ⟨rfl, below_trans (below_alloc (Below.refl _ _) _) y.2⟩

theorem jumps_calls (l : Line) (w : World) : Calls Try.prog 88 #[.agg #[.int .i64 l.depth, .int .i64 l.kind, .int .i64 l.a, .int .i64 l.b]] w fun e w' => e = .returned (.bool (jumps l.kind)) ∧ Below w.heap.size w w' := by
  go_enter Try.func88, Try.ntmps88
  go_wp2_with (go_at_call 38; refine (calls_ext0 (within_calls _ _ _ _)).mono ?_; rintro e w1 ⟨rfl, y, rfl⟩)
  go_ret
  exact ⟨rfl, below_trans (below_alloc (Below.refl _ _) _) y.2⟩

set_option maxHeartbeats 1000000 in
theorem argued_calls (l : Line) (t : Nat) (A : Option Addr) (n : Nat) (w : World) (hn : t ≤ 140737488351232) :
    Calls Try.prog 37 #[.agg #[.int .i64 l.depth, .int .i64 l.kind, .int .i64 l.a, .int .i64 l.b], .agg #[.slice A t n]] w fun e w' => e = .returned (.bool (argued t l)) ∧ Below w.heap.size w w' := by
  obtain ⟨d, k, a, b⟩ := l
  have f0 : ∀ y : Ext ((w.alloc (.cells #[.int .i64 d, .int .i64 k, .int .i64 a, .int .i64 b] 37)).alloc (.cells #[.slice A t n] 24)), y.1.cell? ⟨w.heap.size, 1, none⟩ = some (.int .i64 k) := fun y => y.cell (by simp [go_sem])
  have f1 : ∀ y : Ext ((w.alloc (.cells #[.int .i64 d, .int .i64 k, .int .i64 a, .int .i64 b] 37)).alloc (.cells #[.slice A t n] 24)), y.1.cell? ⟨w.heap.size, 2, none⟩ = some (.int .i64 a) := fun y => y.cell (by simp [go_sem])
  have f2 : ∀ y : Ext ((w.alloc (.cells #[.int .i64 d, .int .i64 k, .int .i64 a, .int .i64 b] 37)).alloc (.cells #[.slice A t n] 24)), y.1.cell? ⟨w.heap.size, 3, none⟩ = some (.int .i64 b) := fun y => y.cell (by simp [go_sem])
  have f3 : ∀ y : Ext ((w.alloc (.cells #[.int .i64 d, .int .i64 k, .int .i64 a, .int .i64 b] 37)).alloc (.cells #[.slice A t n] 24)), y.1.cell? ⟨w.heap.size + 1, 0, none⟩ = some (.slice A t n) := fun y => y.cell (by simp [go_sem])
  have HB : Hid (∀ y : Ext ((w.alloc (.cells #[.int .i64 d, .int .i64 k, .int .i64 a, .int .i64 b] 37)).alloc (.cells #[.slice A t n] 24)), Below w.heap.size w y.1) := Lib.hid fun y => below_trans (below_alloc (below_alloc (Below.refl _ _) _) _) y.2
  go_enter Try.func37, Try.ntmps37
  go_wp2_with (first
    | (go_at_call 62; (first | (with_reducible refine (calls_ext0 (W := ((w.alloc (.cells #[.int .i64 d, .int .i64 k, .int .i64 a, .int .i64 b] 37)).alloc (.cells #[.slice A t n] 24))) (codeOk_calls _ _)).mono ?_) | (with_reducible refine (calls_ext (W := ((w.alloc (.cells #[.int .i64 d, .int .i64 k, .int .i64 a, .int .i64 b] 37)).alloc (.cells #[.slice A t n] 24))) (codeOk_calls _ _)).mono ?_)); rintro e w1 ⟨rfl, y, rfl⟩)
    | (go_at_call 38; (first | (with_reducible refine (calls_ext0 (W := ((w.alloc (.cells #[.int .i64 d, .int .i64 k, .int .i64 a, .int .i64 b] 37)).alloc (.cells #[.slice A t n] 24))) (within_calls _ _ _ _)).mono ?_) | (with_reducible refine (calls_ext (W := ((w.alloc (.cells #[.int .i64 d, .int .i64 k, .int .i64 a, .int .i64 b] 37)).alloc (.cells #[.slice A t n] 24))) (within_calls _ _ _ _)).mono ?_)); rintro e w1 ⟨rfl, y, rfl⟩)
    | (go_at_call 63; (first | (with_reducible refine (calls_ext0 (W := ((w.alloc (.cells #[.int .i64 d, .int .i64 k, .int .i64 a, .int .i64 b] 37)).alloc (.cells #[.slice A t n] 24))) (hasC_calls _ _ _ _ _ hn)).mono ?_) | (with_reducible refine (calls_ext (W := ((w.alloc (.cells #[.int .i64 d, .int .i64 k, .int .i64 a, .int .i64 b] 37)).alloc (.cells #[.slice A t n] 24))) (hasC_calls _ _ _ _ _ hn)).mono ?_)); rintro e w1 ⟨rfl, y, rfl⟩))
  all_goals (go_ret; exact ⟨ret_bool (by unfold argued; simp_all), HB.out _⟩)
end Go.Proofs.Ytihjakpedbaokaa.K
namespace Go.Proofs.Ytihjakpedbaokaa.K
open Go Go.RowKit

/-- The slice v is the call's own (blocks from base on) and holds the list xs. -/
def Own {α : Type} (enc : α → List Value) (k : Nat) (E : TypeId) (base : Nat) (w : World) (v : Value) (xs : List α) : Prop :=
  w.ownsRow base E k v xs.length (xs.flatMap enc)

/-- What a type of slices is. -/
structure Elem (P : Program) (T E : TypeId) (k bytes : Nat) (z : Value) : Prop where
  under : P.underlying T = some (.slice E)
  info : (P.info? E).map (fun i => (i.zero, i.size, i.bytes)) = some (some z, k, bytes)
  cells : z.cells.size = k
  pos : 0 < k

section
variable {α : Type} {enc : α → List Value} {k : Nat} {E : TypeId} {base : Nat} {w w' : World} {v : Value} {xs : List α}

theorem flat_get (he : ∀ x, (enc x).length = k) : ∀ (xs : List α) (i : Nat) (x : α), xs[i]? = some x → ∀ j u, (enc x)[j]? = some u → (xs.flatMap enc)[i * k + j]? = some u
  | [], _, _, h, _, _, _ => by simp at h
  | y :: ys, 0, x, h, j, u, hu => by
    simp at h; subst h
    have hj : j < (enc y).length := (List.getElem?_eq_some_iff.1 hu).1
    simp only [List.flatMap_cons, Nat.zero_mul, Nat.zero_add]
    rw [List.getElem?_append_left hj]; exact hu
  | y :: ys, i + 1, x, h, j, u, hu => by
    simp only [List.getElem?_cons_succ] at h
    simp only [List.flatMap_cons]
    rw [List.getElem?_append_right (by rw [he, Nat.add_mul]; omega), he, show (i + 1) * k + j - k = i * k + j from by rw [Nat.add_mul]; omega]
    exact flat_get he ys i x h j u hu

theorem Own.nil (w : World) : Own enc k E base w (.slice none 0 0) ([] : List α) := World.ownsRow_nil w base E k
theorem Own.alloc (h : Own enc k E base w v xs) (o : Obj) : Own enc k E base (w.alloc o) v xs := World.ownsRow.alloc h o
theorem Own.drew (h : Own enc k E base w v xs) : Own enc k E base w.drew v xs := h
theorem Own.drewN (h : Own enc k E base w v xs) (n : Nat) : Own enc k E base (w.drewN n) v xs := h
theorem Own.below (h : Own enc k E base w v xs) (hb : Below w.heap.size w w') : Own enc k E base w' v xs :=
  World.ownsRow.kept (row := none) h ⟨hb.os, hb.tape, hb.output, hb.size, fun i hi _ => hb.block i hi⟩ (by cases hv : v.ownBlock <;> simp)
theorem Own.ext (h : Own enc k E base w v xs) (x : Ext w) : Own enc k E base x.1 v xs := h.below x.2
theorem Own.mono {base' : Nat} (h : Own enc k E base w v xs) (hb : base' ≤ base) : Own enc k E base' w v xs := by
  obtain ⟨h1, h2⟩ := h
  refine ⟨h1, ?_⟩
  rcases h2 with h2 | ⟨g, cap, cur, hv, hg, r⟩
  · exact .inl h2
  · exact .inr ⟨g, cap, cur, hv, by omega, r⟩
theorem Own.lt (h : Own enc k E base w v xs) : ∀ b, v.ownBlock = some b → base ≤ b ∧ b < w.heap.size := World.ownsRow.lt h
theorem Own.lit (w : World) (cs : Array Value) (xs : List α) (hb : base ≤ w.heap.size) (hn : xs.length ≤ maxLen) (he : ∀ x, (enc x).length = k) (hc : cs.toList = xs.flatMap enc) :
    Own enc k E base (w.alloc (.cells cs E)) (.slice (some ⟨w.heap.size, 0, none⟩) xs.length xs.length) xs := by
  have hl : ∀ ys : List α, (ys.flatMap enc).length = ys.length * k := by
    intro ys
    induction ys with
    | nil => simp
    | cons y ys ih => simp [List.flatMap_cons, ih, he, Nat.add_mul, Nat.add_comm]
  have hs : cs.size = xs.length * k := by rw [← hl, ← hc]; simp
  unfold Own
  refine ⟨hl xs, .inr ⟨w.heap.size, xs.length, cs, rfl, hb, heap_alloc_new w _, Nat.le_refl _, hn, hs, ?_⟩⟩
  rw [hc, ← hl]; exact List.take_length

/-- What is owned reads as the list. -/
theorem Own.form (h : Own enc k E base w v xs) (he : ∀ x, (enc x).length = k) :
    ∃ A c, v = .slice A xs.length c ∧ Rd enc k w A xs ∧ (∀ ad, A = some ad → base ≤ ad.block ∧ ad.block < w.heap.size) ∧ xs.length ≤ c := by
  obtain ⟨h1, h2⟩ := h
  rcases h2 with ⟨rfl, hz⟩ | ⟨g, cap, cur, rfl, hg, hh, r⟩
  · have : xs = [] := List.eq_nil_of_length_eq_zero hz
    subst this
    exact ⟨none, 0, rfl, Rd.nil, (fun _ h => by cases h), Nat.le_refl _⟩
  · have hlt : g < w.heap.size := (Array.getElem?_eq_some_iff.1 hh).1
    refine ⟨some ⟨g, 0, none⟩, cap, rfl, fun i x hi => ⟨_, rfl, hlt, fun j u hu => ?_⟩, (fun ad e => by cases e; exact ⟨hg, hlt⟩), r.1⟩
    exact World.ownsRow.cells (base := base) (e := E) (size := k) (v := .slice (some ⟨g, 0, none⟩) xs.length cap) ⟨h1, .inr ⟨g, cap, cur, rfl, hg, hh, r⟩⟩ rfl _ u (flat_get he xs i x hi j u hu)

theorem Own.rd {A : Option Addr} {n c : Nat} (h : Own enc k E base w (.slice A n c) xs) (he : ∀ x, (enc x).length = k) : Rd enc k w A xs ∧ n = xs.length ∧ ∀ ad, A = some ad → base ≤ ad.block ∧ ad.block < w.heap.size := by
  obtain ⟨A', c', e, hr, hf, _⟩ := h.form he
  cases e
  exact ⟨hr, rfl, hf⟩

theorem own_below {w0 : World} (hb : Below base w0 w) (ho : Own enc k E base w v xs) (hg : w.grownBy w' v.ownBlock) (hB : base ≤ w.heap.size) : Below base w0 w' :=
  hb.grown hg hB fun g h => (ho.lt g h).1

/-- 'out = append(out, y)' on an owned row. -/
theorem wpList_append_elem {P : Program} {ops : Array Oper} {rest : List Oper} {o : Oper} {a : Act} {Q : Exit → Act → World → Prop} {T : TypeId} {bytes : Nat} {z : Value} (I : Elem P T E k bytes z)
    (hgd : o.guard = none) (s x : Operand) (ho : o.op = .call { callee := .builtin .append, args := #[s, x], argTypes := #[T, T] })
    (hs : a.eval s = v) (hown : Own enc k E base w v xs) (y : α) (ad : Addr) (c : Nat) (hx : a.eval x = .slice (some ad) 1 c)
    (hl : (enc y).length = k) (hnews : ∀ j u, (enc y)[j]? = some u → w.cell? (ad.add j) = some u) (h1 : ∀ u ∈ enc y, u.oneCell' = true) (hlen : (xs.length + 1) * bytes ≤ 140737488355328) (hb0 : 0 < bytes) (hbase : base ≤ w.heap.size)
    (h : ∀ v' w', Own enc k E base w' v' (xs ++ [y]) → w.grownBy w' v.ownBlock → wpList P ops Q rest (a.put o.dst v') w') : wpList P ops Q (o :: rest) a w := by
  obtain ⟨i, hi, hz0, hz1, hz2⟩ := info_parts I.info
  refine wpList_append_own w hgd s x T ho base E i z k bytes I.under hi hz0 hz1 hz2 I.cells I.pos v xs.length (xs.flatMap enc) hs hown ad 1 c (enc y) hx (by rw [hl, Nat.one_mul]) hnews h1 (by unfold maxLen; have := Nat.le_mul_of_pos_right (xs.length + 1) hb0; omega) hlen hbase fun v' w' h2 h3 _ => h v' w' ?_ h3
  unfold Own
  rw [List.length_append, List.flatMap_append]
  simpa using h2
end

def encN (n : Nat) : List Value := [.int .i64 n]
def encI (n : Int) : List Value := [.int .i64 n]
theorem encN_len (n : Nat) : (encN n).length = 1 := rfl
theorem encI_len (n : Int) : (encI n).length = 1 := rfl
/-- The one cell of an element, as the walk spells it. -/
theorem Rd.nat {w : World} {A : Option Addr} {l : List Nat} (h : Rd encN 1 w A l) {i : Nat} (hi : i < l.length) : ∃ ad, A = some ad ∧ ad.block < w.heap.size ∧ w.cell? (ad.add i) = some (.int .i64 (l.getD i 0)) := by
  obtain ⟨ad, e, hl, hc⟩ := h i (l.getD i 0) (by simp [List.getElem?_eq_getElem hi])
  exact ⟨ad, e, hl, by have := hc 0 _ rfl; simpa using this⟩
end Go.Proofs.Ytihjakpedbaokaa.K
namespace Go.Proofs.Ytihjakpedbaokaa.K

def endFrom (p : Prg) (d : Int) (k : Nat) : Nat := if k < p.length ∧ d < (ln p k).depth then endFrom p d (k + 1) else k
  termination_by p.length - k
def endOf (p : Prg) (i : Nat) : Nat := endFrom p (ln p i).depth (i + 1)
theorem endFrom_ge (p : Prg) (d : Int) : ∀ (m k : Nat), p.length - k = m → k ≤ endFrom p d k := by
  intro m
  induction m with
  | zero => intro k h; rw [endFrom, if_neg (by omega)]; exact Nat.le_refl _
  | succ m ih =>
    intro k h
    rw [endFrom]
    split
    · exact Nat.le_trans (Nat.le_succ k) (ih (k + 1) (by omega))
    · exact Nat.le_refl _
theorem endFrom_le (p : Prg) (d : Int) : ∀ (m k : Nat), p.length - k = m → k ≤ p.length → endFrom p d k ≤ p.length := by
  intro m
  induction m with
  | zero => intro k h hk; rw [endFrom, if_neg (by omega)]; exact hk
  | succ m ih =>
    intro k h hk
    rw [endFrom]
    split
    · exact ih (k + 1) (by omega) (by omega)
    · exact hk
theorem endOf_gt (p : Prg) (i : Nat) : i < endOf p i := endFrom_ge p _ _ (i + 1) rfl
theorem endOf_le (p : Prg) {i : Nat} (h : i < p.length) : endOf p i ≤ p.length := endFrom_le p _ _ (i + 1) rfl h
theorem endFrom_in {p : Prg} {d : Int} {k : Nat} (h : k < p.length) (hd : d < (ln p k).depth) : endFrom p d k = endFrom p d (k + 1) := by rw [endFrom, if_pos ⟨h, hd⟩]
theorem endFrom_out {p : Prg} {d : Int} {k : Nat} (h : p.length ≤ k ∨ (ln p k).depth ≤ d) : endFrom p d k = k := by rw [endFrom, if_neg (by omega)]

/-- impl: siblings. -/
def siblings (p : Prg) (i to : Nat) : List Nat := if i < to then i :: siblings p (endOf p i) to else []
  termination_by to - i
  decreasing_by have := endOf_gt p i; omega

/-- impl: the rest of a try at the depth d, from k on. -/
def tryRest (p : Prg) (d : Int) (k : Nat) : List Nat :=
  if k < p.length ∧ (ln p k).depth = d ∧ follows (ln p k).kind = true then k :: tryRest p d (endOf p k) else []
  termination_by p.length - k
  decreasing_by have := endOf_gt p k; omega
def tryFrom (p : Prg) (i : Nat) : List Nat := i :: tryRest p (ln p i).depth (endOf p i)

/-- spec. -/
def sameNext (p : Prg) (i : Nat) : Nat := if endOf p i < p.length ∧ (ln p (endOf p i)).depth = (ln p i).depth then endOf p i else p.length
theorem sameNext_gt (p : Prg) {i : Nat} (h : i < p.length) : i < sameNext p i := by
  unfold sameNext
  split
  · exact endOf_gt p i
  · exact h
theorem sameNext_le (p : Prg) (i : Nat) : sameNext p i ≤ p.length := by unfold sameNext; split <;> omega
def chainFrom (p : Prg) (k : Nat) : List Nat :=
  if k < p.length ∧ follows (ln p k).kind = true then k :: chainFrom p (sameNext p k) else []
  termination_by p.length - k
  decreasing_by rename_i h; have := sameNext_gt p h.1; omega
def chainOf (p : Prg) (i : Nat) : List Nat := i :: chainFrom p (sameNext p i)
def nextLine (p : Prg) (i : Nat) : Nat := if (ln p i).kind = 7 then endOf p ((chainOf p i).getLast?.getD 0) else endOf p i

/-- spec: inLoop, the lines below number k still to look at. -/
def inLoopGo (p : Prg) : Nat → Int → Bool
  | 0, _ => false
  | k + 1, d => if (ln p k).depth < d then (if (ln p k).kind = 12 then true else inLoopGo p k (ln p k).depth) else inLoopGo p k d
def inLoop (p : Prg) (i : Nat) : Bool := inLoopGo p i (ln p i).depth
/-- spec: headOf. -/
def headGo (p : Prg) (d : Int) : Nat → Int
  | 0 => -1
  | k + 1 => if (ln p k).depth < d then -1 else if (ln p k).depth = d then (k : Int) else headGo p d k
def headOf (p : Prg) (i : Nat) : Int := headGo p (ln p i).depth i

/-- spec: the lines of a try stand in order, from place k of the list on, 'ex' handlers so far. -/
def chainOkGo (p : Prg) (l : List Nat) (k : Nat) (ex : Nat) : Bool :=
  if k < l.length then
    let kind := (ln p (l.getD k 0)).kind
    let prev := (ln p (l.getD (k - 1) 0)).kind
    let ex' := if kind = 8 then ex + 1 else ex
    if (1 < k ∧ (kind < prev ∨ (kind = prev ∧ kind ≠ 8))) ∨ (kind = 9 ∧ ex' = 0) then false else chainOkGo p l (k + 1) ex'
  else decide (1 < l.length) && decide (ex ≤ 6)
  termination_by l.length - k
def validChain (p : Prg) (i : Nat) : Bool := chainOkGo p (chainOf p i) 1 0

/-- spec: a line stands at a wrong depth. -/
def badPlace (p : Prg) (i : Nat) : Bool :=
  (i == 0 && (ln p i).depth != 0) ||
  (decide (0 < i) && (decide ((ln p (i - 1)).depth + 1 < (ln p i).depth) || (opens (ln p (i - 1)).kind != ((ln p i).depth == (ln p (i - 1)).depth + 1)))) ||
  (i + 1 == p.length && opens (ln p i).kind)
def badKind (p : Prg) (i : Nat) : Bool :=
  ((ln p i).kind == 7 && !validChain p i) || (((ln p i).kind == 5 || (ln p i).kind == 6) && !inLoop p i)
def headed (p : Prg) (i : Nat) : Bool :=
  decide (0 ≤ headOf p i) && ((ln p (headOf p i).toNat).kind == 7 || follows (ln p (headOf p i).toNat).kind)
def validLine (n : Nat) (p : Prg) (i : Nat) : Bool :=
  argued n (ln p i) && within (ln p i).depth 0 5 && !badPlace p i && !badKind p i && (!follows (ln p i).kind || headed p i)
def validProgram (t : Tree) (p : Prg) : Bool := allFrom p.length (validLine t.length p) 0 && validTreeS t && decide (p.length ≤ 24)
theorem headGo_lt (p : Prg) (d : Int) : ∀ k : Nat, headGo p d k < k
  | 0 => by simp [headGo]
  | k + 1 => by
    unfold headGo
    split
    · omega
    · split
      · omega
      · have := headGo_lt p d k; omega
end Go.Proofs.Ytihjakpedbaokaa.K
