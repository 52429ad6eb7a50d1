/- Words: a row's arguments opened: a tree of classes, the lines of a program. -/
import Derived.Test.YtihjakpedbaokaaC01
import Derived.WalkKit
import Derived.ProofKit
import Derived.OpenShut
import Derived.ShutString
import Derived.ChangeOld
import Derived.Below
import Derived.SizedLaws
import Derived.Carry
import Derived.Deep.Slices
import Derived.Deep.Fields
import Derived.ChangeSame
import Derived.Lib.SmallJoins
namespace Go.Proofs.Ytihjakpedbaokaa.K
open Go Go.RowKit Go.ChangeShapes Go.WideShapes Go.Deep Go.Joins

theorem list_of {α : Type} : ∀ {len : Nat} {Q : Nat → α → Prop}, (∀ i, i < len → ∃ x, Q i x) → ∃ xs : List α, xs.length = len ∧ ∀ i x, xs[i]? = some x → Q i x
  | 0, _, _ => ⟨[], rfl, fun i x h => by simp at h⟩
  | n + 1, Q, h => by
    obtain ⟨x, hx⟩ := h 0 (by omega)
    obtain ⟨xs, hl, hq⟩ := list_of (len := n) (Q := fun i => Q (i + 1)) fun i hi => h (i + 1) (by omega)
    refine ⟨x :: xs, by simp [hl], fun i y hy => ?_⟩
    cases i with
    | zero => simp at hy; subst hy; exact hx
    | succ i => exact hq i y (by simpa using hy)

section
variable {H : Type} {enc : TypeId × Value → H} {P : Program} {w : World} {base : Nat} {spare : Nat → Bool} {held : Bool}
theorem open_fields {t e : TypeId} {fs : Array Field} {fuel : Nat} {cs : List Value} {x : DataW H × List MemPlace} (ht : P.underlying t = some (.slice e)) (he : P.underlying e = some (.struct fs))
    (hone : oneCellFields P fs = true) (hC : P.cellsOf e = fs.size) (h : DataW.trod enc P w base spare held fuel t cs = some x) :
    (cs = [.slice none 0 0] ∧ x = (.nil, [])) ∨
    ∃ (a : Addr) (len cap m : Nat) (D : Nat → DataW H) (Pl : Nat → List MemPlace), cs = [.slice (some a) len cap] ∧ base ≤ a.block ∧ len ≤ cap ∧ cap ≤ maxLen ∧ m = (if spare a.block then cap else len) ∧
      x = (.slice ((List.range len).map D) ((List.range (m - len)).map fun j => D (len + j)), MemPlace.row a (m * fs.size) ++ (List.range m).flatMap Pl) ∧
      ∀ i, i < m → ∃ (ys : List (DataW H × List MemPlace)) (n : Nat), D i = .agg (ys.map (·.1)) ∧ Pl i = ys.flatMap (·.2) ∧ ys.length = fs.size ∧
        ∀ (j : Nat) (f : Field), fs[j]? = some f → ∃ (v : Value) (y : DataW H × List MemPlace), w.cell? (a.add (i * fs.size + j)) = some v ∧ ys[j]? = some y ∧ DataW.trod enc P w base spare held n f.type [v] = some y := by
  rcases open_slice ht h with h0 | ⟨a, len, cap, m, n, D, Pl, hcs, hb, hl, hm, hmm, hx, hi⟩
  · exact .inl h0
  · refine .inr ⟨a, len, cap, m, D, Pl, hcs, hb, hl, hm, hmm, by rw [hC] at hx; exact hx, fun i him => ?_⟩
    obtain ⟨cs', hc, ht'⟩ := hi i him
    rw [hC] at hc
    obtain ⟨ys, n', hn', hy, hlen, hyl, hf⟩ := DataW.trod_struct he ht'
    obtain ⟨_, hcl, hat⟩ := World.cells?_some hc
    simp only [Prod.mk.injEq] at hy
    refine ⟨ys, n', hy.1, hy.2, hyl, fun j f hj => ?_⟩
    obtain ⟨ho, hk⟩ := hone_of hone j f hj
    have hjl : j < fs.size := (Array.getElem?_eq_some_iff.1 hj).1
    have hcell := hat j hjl
    have hv : cs'[j]? = some (cs'[j]'(by omega)) := List.getElem?_eq_getElem (by omega)
    have h1 := hf j f hj
    rw [ho, hk] at h1
    have hone' : (cs'.drop j).take 1 = [cs'[j]'(by omega)] := by
      rw [List.drop_eq_getElem_cons (by omega)]
      rfl
    rw [hone'] at h1
    have hys : ys[j]? = some (ys[j]'(by omega)) := List.getElem?_eq_getElem (by omega)
    refine ⟨_, _, ?_, hys, h1.trans hys⟩
    rw [← Go.Deep.add_add, hcell, hv]
theorem open_agg1 {r : Reach} {b0 : Nat} {t : TypeId} {f0 : Field} {v : Value} {d : DataW H} {p : List MemPlace} (hs : P.underlying t = some (.struct #[f0])) (hone : oneCellFields P #[f0] = true) (hC : P.cellsOf t = 1)
    (hv : Value.okWide P w r b0 t v) (h : DataW.Trod enc P w base spare held t v d p) :
    ∃ (v0 : Value) (y0 : DataW H × List MemPlace) (n : Nat), v = .agg #[v0] ∧ d = .agg [y0.1] ∧ DataW.trod enc P w base spare held n f0.type [v0] = some y0 := by
  obtain ⟨cs, rfl, hsz⟩ := okWide_struct hs hv
  obtain ⟨l⟩ := cs
  match l, hsz.trans hC with
  | [c0], _ =>
    obtain ⟨fuel, hf⟩ := h
    obtain ⟨xs, n, _, hx, _, hlen, hg⟩ := DataW.trod_struct hs hf
    obtain ⟨o0, k0⟩ := hone_of hone 0 f0 rfl
    match xs, hlen with
    | [y0], _ =>
      simp only [Prod.mk.injEq] at hx
      exact ⟨c0, y0, n, rfl, by simpa using hx.1, by simpa [Value.cells, o0, k0] using hg 0 f0 rfl⟩
theorem weights_all {e : TypeId} : ∀ {l : List (DataW H)} {d : DataW H}, d ∈ l → ∀ n ∈ d.weights P e, n ∈ DataW.weightsAll P e l
  | x :: l, d, hd, n, hn => by
    simp only [DataW.weightsAll, List.mem_append]
    rcases List.mem_cons.1 hd with rfl | hd
    · exact .inl hn
    · exact .inr (weights_all hd n hn)
theorem lt_of_has {r : Reach} {b : Nat} {a : Addr} {e : TypeId} {n : Nat} (h : w.has P r b a e n) : a.block < w.heap.size := by
  obtain ⟨_, _, row, cells, hs, _⟩ := h
  by_cases hl : a.block < w.heap.size
  · exact hl
  · have : w.shape? a.block = none := by unfold World.shape?; rw [Array.getElem?_eq_none (by omega)]
    rw [this] at hs
    cases hs
theorem okSlice_lt {r : Reach} {b : Nat} {t e : TypeId} {a : Addr} {n c : Nat} (ht : P.underlying t = some (.slice e)) (h : Cell.okWide P w r b t (.slice (some a) n c)) : a.block < w.heap.size := by
  simp only [Cell.okWide, Cell.ok, ht] at h
  exact lt_of_has h.2.2
end

set_option maxRecDepth 100000 in
/-- The first argument of a law: a tree. -/
theorem open_tree {H : Type} {enc : TypeId × Value → H} {w : World} {b : Nat} {v : Value} {d : DataW H} {ps : List MemPlace} (hv : Value.okWide Try.prog w .any b 24 v) (h : DataW.Trod enc Try.prog w 0 (fun _ => true) true 24 v d ps)
    (hz : ∀ n ∈ d.weights Try.prog 24, n ≤ reachBytes) :
    ∃ (At : Option Addr) (t : Tree) (nt : Nat), v = .agg #[.slice At t.length nt] ∧ Rd encC 2 w At t ∧ Sized t ∧ t.length ≤ nt ∧ t.length ≤ 140737488351232 ∧ ∀ ad, At = some ad → ad.block < w.heap.size := by
  obtain ⟨v0, y0, n, rfl, rfl, h0⟩ := open_agg1 Try.underlying24 (by kernel_rfl) (by kernel_rfl) hv h
  have hb : ∀ a l c, v0 = .slice (some a) l c → a.block < w.heap.size := by
    rintro a l c rfl
    simp only [Value.okWide, Try.underlying24] at hv
    obtain ⟨cs, e, _, ts, hts, _, hc⟩ := hv
    cases e
    obtain ⟨u, hu, hk⟩ := hc 0 _ rfl
    have ht : Try.prog.cellTypes Try.prog.depth 24 = some [22] := by kernel_rfl
    rw [ht] at hts
    cases hts
    simp at hu
    subst hu
    exact okSlice_lt Try.underlying22 hk
  rcases open_fields Try.underlying22 Try.underlying86 (by kernel_rfl) (by kernel_rfl) h0 with ⟨hcs, hx⟩ | ⟨a, len, cap, m, D, Pl, hcs, _, hl, hm, hmm, hx, hi⟩
  · cases hcs
    exact ⟨none, [], 0, rfl, Rd.nil, (fun i hi => absurd hi (by simp)), Nat.le_refl _, by simp, fun ad e => (by cases e)⟩
  · cases hcs
    simp only [if_true] at hmm
    subst hmm
    obtain ⟨t, htl, hq⟩ : ∃ t : Tree, t.length = len ∧ ∀ i x, t[i]? = some x → (w.cell? (a.add (i * 2)) = some (.string x.name) ∧ w.cell? (a.add (i * 2 + 1)) = some (.int .i64 x.parent)) ∧ x.name.size ≤ 140737488351232 := by
      refine list_of fun i him => ?_
      obtain ⟨ys, n', hD, _, hyl, hf⟩ := hi i (by omega)
      obtain ⟨u0, z0, c0, hy0, t0⟩ := hf 0 _ rfl
      obtain ⟨u1, z1, c1, hy1, t1⟩ := hf 1 _ rfl
      obtain ⟨s, e0, ez0, _⟩ := DataW.trod_string (by kernel_rfl) t0
      obtain ⟨k, e1, ez1, _⟩ := DataW.trod_int (k := .i64) (by kernel_rfl) t1
      cases e0
      cases e1
      refine ⟨⟨s, k⟩, ⟨c0, c1⟩, ?_⟩
      have hmem : s.data.toList.length ∈ (D i).weights Try.prog 86 := by
        rw [hD]
        match ys, hyl, hy0, hy1 with
        | [q0, q1], _, hy0, hy1 =>
          simp at hy0 hy1
          subst hy0 hy1
          rw [ez0, ez1]
          simp only [DataW.weights, Try.underlying86]
          simp [DataW.weightsEach, DataW.weights]
      have hw : s.data.toList.length ∈ (DataW.agg [y0.1]).weights Try.prog 24 := by
        rw [hx]
        simp only [DataW.weights, Try.underlying24]
        simp only [DataW.weightsEach, List.map_cons, List.map_nil, List.append_nil]
        simp only [DataW.weights, Try.underlying22]
        refine List.mem_cons_of_mem _ (List.mem_append.2 (.inl (weights_all (List.mem_map.2 ⟨i, by simp; omega, rfl⟩) _ hmem)))
      have := hz _ hw
      unfold reachBytes at this
      have e : s.data.toList.length = s.size := by simp
      rw [e] at this
      exact this
    subst htl
    refine ⟨some a, t, m, rfl, fun i x hx => ⟨a, rfl, hb _ _ _ rfl, fun j u hu => ?_⟩, fun i hi2 => ?_, hl, ?_, fun ad e => by cases e; exact hb _ _ _ rfl⟩
    · obtain ⟨⟨q0, q1⟩, -⟩ := hq i x hx
      match j, hu with
      | 0, hu => simp [encC] at hu; subst hu; simpa using q0
      | 1, hu => simp [encC] at hu; subst hu; exact q1
    · exact (hq i _ (cl_get hi2)).2
    · have hw : ((List.range t.length).map D).length * 24 ≤ reachBytes := by
        have hmem : (((List.range t.length).map D).length + ((List.range (m - t.length)).map fun j => D (t.length + j)).length) * Try.prog.bytesOf 86 ∈ (DataW.agg [y0.1]).weights Try.prog 24 := by
          rw [hx]
          simp only [DataW.weights, Try.underlying24]
          simp only [DataW.weightsEach, List.map_cons, List.map_nil, List.append_nil]
          simp only [DataW.weights, Try.underlying22]
          exact List.mem_cons_self
        have := hz _ hmem
        rw [show Try.prog.bytesOf 86 = 24 from by kernel_rfl] at this
        omega
      unfold reachBytes at hw
      simp at hw
      omega
set_option maxRecDepth 100000 in
/-- An argument that is the lines of a program. -/
theorem open_prg {H : Type} {enc : TypeId × Value → H} {w : World} {b : Nat} {v : Value} {d : DataW H} {ps : List MemPlace} (hv : Value.okWide Try.prog w .any b 25 v) (h : DataW.Trod enc Try.prog w 0 (fun _ => true) true 25 v d ps)
    (hz : ∀ n ∈ d.weights Try.prog 25, n ≤ reachBytes) :
    ∃ (A : Option Addr) (p : Prg) (c : Nat), v = .slice A p.length c ∧ Rd encL 4 w A p ∧ p.length ≤ c ∧ p.length ≤ 4398046511104 ∧ ∀ ad, A = some ad → ad.block < w.heap.size := by
  obtain ⟨a0, len0, cap0, rfl⟩ := okWide_slice Try.underlying25 hv
  have hb : ∀ a, a0 = some a → a.block < w.heap.size := by
    rintro a rfl
    simp only [Value.okWide, Try.underlying25] at hv
    exact okSlice_lt Try.underlying25 hv
  obtain ⟨fuel, hf⟩ := h
  rcases open_fields Try.underlying25 Try.underlying37 (by kernel_rfl) (by kernel_rfl) hf with ⟨hcs, hx⟩ | ⟨a, len, cap, m, D, Pl, hcs, _, hl, hm, hmm, hx, hi⟩
  · simp [Value.cells] at hcs
    obtain ⟨rfl, rfl, rfl⟩ := hcs
    exact ⟨none, [], 0, rfl, Rd.nil, Nat.le_refl _, by simp, fun ad e => (by cases e)⟩
  · simp [Value.cells] at hcs
    obtain ⟨rfl, rfl, rfl⟩ := hcs
    simp only [if_true] at hmm
    subst hmm
    obtain ⟨p, hpl, hq⟩ : ∃ p : Prg, p.length = len0 ∧ ∀ i x, p[i]? = some x → w.cell? (a.add (i * 4)) = some (.int .i64 x.depth) ∧ w.cell? (a.add (i * 4 + 1)) = some (.int .i64 x.kind) ∧ w.cell? (a.add (i * 4 + 2)) = some (.int .i64 x.a) ∧ w.cell? (a.add (i * 4 + 3)) = some (.int .i64 x.b) := by
      refine list_of fun i him => ?_
      obtain ⟨ys, n', hD, _, hyl, hf⟩ := hi i (by omega)
      obtain ⟨u0, z0, c0, hy0, t0⟩ := hf 0 _ rfl
      obtain ⟨u1, z1, c1, hy1, t1⟩ := hf 1 _ rfl
      obtain ⟨u2, z2, c2, hy2, t2⟩ := hf 2 _ rfl
      obtain ⟨u3, z3, c3, hy3, t3⟩ := hf 3 _ rfl
      obtain ⟨k0, e0, _, _⟩ := DataW.trod_int (k := .i64) (by kernel_rfl) t0
      obtain ⟨k1, e1, _, _⟩ := DataW.trod_int (k := .i64) (by kernel_rfl) t1
      obtain ⟨k2, e2, _, _⟩ := DataW.trod_int (k := .i64) (by kernel_rfl) t2
      obtain ⟨k3, e3, _, _⟩ := DataW.trod_int (k := .i64) (by kernel_rfl) t3
      cases e0
      cases e1
      cases e2
      cases e3
      exact ⟨⟨k0, k1, k2, k3⟩, c0, c1, c2, c3⟩
    subst hpl
    refine ⟨some a, p, m, rfl, fun i x hx => ⟨a, rfl, hb _ rfl, fun j u hu => ?_⟩, hl, ?_, fun ad e => by cases e; exact hb _ rfl⟩
    · obtain ⟨q0, q1, q2, q3⟩ := hq i x hx
      match j, hu with
      | 0, hu => simp [encL] at hu; subst hu; simpa using q0
      | 1, hu => simp [encL] at hu; subst hu; exact q1
      | 2, hu => simp [encL] at hu; subst hu; exact q2
      | 3, hu => simp [encL] at hu; subst hu; exact q3
    · simp only [Prod.mk.injEq] at hx
      obtain ⟨rfl, _⟩ := hx
      have hmem : (((List.range p.length).map D).length + ((List.range (m - p.length)).map fun j => D (p.length + j)).length) * Try.prog.bytesOf 37 ∈ (DataW.slice ((List.range p.length).map D) ((List.range (m - p.length)).map fun j => D (p.length + j))).weights Try.prog 25 := by
        simp only [DataW.weights, Try.underlying25]
        exact List.mem_cons_self
      have := hz _ hmem
      rw [show Try.prog.bytesOf 37 = 32 from by kernel_rfl] at this
      unfold reachBytes at this
      simp at this
      omega
end Go.Proofs.Ytihjakpedbaokaa.K
