/- Words: appending a list to a row of the call's own; parts of a slice. -/
import Derived.Test.YtihjakpedbaokaaC03
import Derived.Test.YtihjakpedbaokaaC02
import Derived.Test.YtihjakpedbaokaaC01
import Derived.Maps.AppendAt
namespace Go.Proofs.Ytihjakpedbaokaa.K
open Go Go.RowKit

/-- From the world w, in which V is the call's own row, to the world w', in which V' is: only V's own block has changed. -/
structure Gr (w : World) (V : Value) (w' : World) (V' : Value) : Prop where
  os : w'.os = w.os
  tape : w'.tape = w.tape
  output : w'.output = w.output
  size : w.heap.size ≤ w'.heap.size
  block : ∀ b, b < w.heap.size → V.ownBlock ≠ some b → w'.heap[b]? = w.heap[b]?
  new : ∀ b, V'.ownBlock = some b → V.ownBlock = some b ∨ w.heap.size ≤ b
section
variable {w w' w'' : World} {V V' V'' : Value} {α : Type} {enc : α → List Value} {k : Nat} {E : TypeId} {base : Nat} {xs : List α}
theorem Gr.refl (w : World) (V : Value) : Gr w V w V := ⟨rfl, rfl, rfl, Nat.le_refl _, fun _ _ _ => rfl, fun _ h => .inl h⟩
theorem Gr.trans (h : Gr w V w' V') (g : Gr w' V' w'' V'') : Gr w V w'' V'' :=
  ⟨g.os.trans h.os, g.tape.trans h.tape, g.output.trans h.output, Nat.le_trans h.size g.size,
   fun b hb hn => (g.block b (Nat.lt_of_lt_of_le hb h.size) (fun hx => by rcases h.new b hx with h1 | h1; exact hn h1; omega)).trans (h.block b hb hn),
   fun b hb => by
    rcases g.new b hb with h1 | h1
    · exact h.new b h1
    · exact .inr (Nat.le_trans h.size h1)⟩
theorem Gr.of_below (V : Value) (h : Below w.heap.size w w') : Gr w V w' V := ⟨h.os, h.tape, h.output, h.size, fun b hb _ => h.block b hb, fun _ h => .inl h⟩
theorem Gr.ext (V : Value) (x : Ext w) : Gr w V x.1 V := Gr.of_below V x.2
theorem Gr.alloc (h : Gr w V w' V') (o : Obj) : Gr w V (w'.alloc o) V' := h.trans (Gr.of_below _ (below_alloc (Below.refl _ _) _))
theorem Gr.below (h : Gr w V w' V') {B : Nat} (hB : B ≤ w.heap.size) (hV : ∀ b, V.ownBlock = some b → B ≤ b) : Below B w w' :=
  ⟨h.os, h.tape, h.output, h.size, fun b hb => h.block b (by omega) (fun e => by have := hV b e; omega)⟩
theorem Gr.blk (h : Gr w V w' V') {g : Nat} {T : TypeId} {cs : Array Value} (hb : Blk w g T cs) (hn : V.ownBlock ≠ some g) : Blk w' g T cs := (h.block g hb.lt hn).trans hb
theorem Gr.rd {β : Type} {en : β → List Value} {j : Nat} {A : Option Addr} {ys : List β} (h : Gr w V w' V') (hr : Rd en j w A ys) (hn : ∀ ad, A = some ad → ad.block < w.heap.size → V.ownBlock ≠ some ad.block) : Rd en j w' A ys := fun i x hi => by
  obtain ⟨ad, e, hl, hc⟩ := hr i x hi
  exact ⟨ad, e, Nat.lt_of_lt_of_le hl h.size, fun j u hu => (World.cell?_of_block (w := w) (by rw [block_of_add]; exact h.block _ hl (hn ad e hl))).trans (hc j u hu)⟩
theorem flat_inv (he : ∀ x, (enc x).length = k) : ∀ (xs : List α) (j : Nat) (u : Value), (xs.flatMap enc)[j]? = some u → ∃ i x r, xs[i]? = some x ∧ (enc x)[r]? = some u ∧ j = i * k + r
  | [], j, u, h => by simp at h
  | y :: ys, j, u, h => by
    rw [List.flatMap_cons] at h
    by_cases hj : j < (enc y).length
    · rw [List.getElem?_append_left hj] at h
      exact ⟨0, y, j, rfl, h, by omega⟩
    · rw [List.getElem?_append_right (by omega)] at h
      obtain ⟨i, x, r, h1, h2, h3⟩ := flat_inv he ys _ u h
      rw [he] at h3 hj
      exact ⟨i + 1, x, r, by simpa using h1, h2, by rw [Nat.add_mul]; omega⟩
theorem Rd.flat (he : ∀ x, (enc x).length = k) {ad : Addr} (h : Rd enc k w (some ad) xs) (j : Nat) (u : Value) (hu : (xs.flatMap enc)[j]? = some u) : w.cell? (ad.add j) = some u := by
  obtain ⟨i, x, r, h1, h2, rfl⟩ := flat_inv he xs j u hu
  obtain ⟨_, e, _, hc⟩ := h i x h1
  cases e
  exact hc r u h2
theorem flat_len (he : ∀ x, (enc x).length = k) : ∀ xs : List α, (xs.flatMap enc).length = xs.length * k
  | [] => by simp
  | x :: xs => by rw [List.flatMap_cons, List.length_append, he, flat_len he xs, List.length_cons, Nat.add_mul]; omega
/-- 'out = append(out, ys...)' on an owned row. -/
theorem wpList_append_list {P : Program} {ops : Array Oper} {rest : List Oper} {o : Oper} {a : Act} {Q : Exit → Act → World → Prop} {T : TypeId} {bytes : Nat} {z v : Value} (I : Elem P T E k bytes z)
    (hgd : o.guard = none) {s x : Operand} (ho : o.op = .call { callee := .builtin .append, args := #[s, x], argTypes := #[T, T] })
    (hs : a.eval s = v) (hown : Own enc k E base w v xs) (ys : List α) (ad : Addr) (c : Nat) (hx : a.eval x = .slice (some ad) ys.length c)
    (he : ∀ x, (enc x).length = k) (hr : Rd enc k w (some ad) ys) (h1 : ∀ y u, u ∈ enc y → u.oneCell' = true) (hlen : (xs.length + ys.length) * bytes ≤ 140737488355328) (hb0 : 0 < bytes) (hbase : base ≤ w.heap.size)
    (h : ∀ v' w', Own enc k E base w' v' (xs ++ ys) → Gr w v w' v' → (v ≠ .slice none 0 0 → v' ≠ .slice none 0 0) → wpList P ops Q rest (a.put o.dst v') w') : wpList P ops Q (o :: rest) a w := by
  obtain ⟨i, hi, hz0, hz1, hz2⟩ := info_parts I.info
  refine wpList_append_own_at w hgd s x T ho base E i z k bytes I.under hi hz0 hz1 hz2 I.cells I.pos v xs.length (xs.flatMap enc) hs hown ad ys.length c (ys.flatMap enc) hx (flat_len he ys) (fun j u hu => hr.flat he j u hu)
    (fun u hu => by obtain ⟨y, _, hy⟩ := List.mem_flatMap.1 hu; exact h1 y u hy) (by unfold maxLen; have := Nat.le_mul_of_pos_right (xs.length + ys.length) hb0; omega) hlen hbase fun v' w' h2 h3 h4 h5 => h v' w' ?_ ?_ ?_
  · unfold Own
    rw [List.length_append, List.flatMap_append]
    exact h2
  · refine ⟨h3.os, h3.tape, h3.output, h3.size, fun b hb hn => h3.block b hb (fun e => hn e.symm), fun b hb => ?_⟩
    rcases h5 with h5 | h5
    · exact .inl (by rw [← h5]; exact hb)
    · rw [h5] at hb; cases hb; exact .inr (Nat.le_refl _)
  · exact fun hn hx => hn (h4.1 hx).1
/-- A literal slice reads as its list. -/
theorem rd_lit (w : World) (cs : Array Value) (xs : List α) (hn : xs.length ≤ maxLen) (he : ∀ x, (enc x).length = k) (hc : cs.toList = xs.flatMap enc) : Rd enc k (w.alloc (.cells cs E)) (some ⟨w.heap.size, 0, none⟩) xs := by
  have := (Own.lit (enc := enc) (k := k) (E := E) (base := 0) w cs xs (Nat.zero_le _) hn he hc).form he
  obtain ⟨A, c, e, hr, -⟩ := this
  cases e
  exact hr
theorem Own.some_ {v : Value} (h : Own enc k E base w v xs) (he : ∀ x, (enc x).length = k) (hn : v ≠ .slice none 0 0) : ∃ g c, v = .slice (some ⟨g, 0, none⟩) xs.length c ∧ Rd enc k w (some ⟨g, 0, none⟩) xs ∧ base ≤ g ∧ g < w.heap.size ∧ xs.length ≤ c := by
  obtain ⟨A, c, e, hr, hf, hc⟩ := h.form he
  obtain ⟨_, h2⟩ := h
  rcases h2 with ⟨rfl, _⟩ | ⟨g, cap, cur, rfl, hg, hh, _⟩
  · exact absurd rfl hn
  · cases e
    exact ⟨g, _, rfl, hr, (hf _ rfl).1, (hf _ rfl).2, hc⟩
end
theorem drewN_two (w : World) (a b : Nat) : (w.drewN a).drewN b = w.drewN (a + b) := by simp [World.drewN, Nat.add_assoc]
theorem encL_len (l : Line) : (encL l).length = 4 := rfl
theorem encL_one (l : Line) (u : Value) (h : u ∈ encL l) : u.oneCell' = true := by simp [encL] at h; rcases h with rfl | rfl | rfl | rfl <;> rfl

/-! ### parts of lines -/
theorem Rd.seg {w : World} {ad : Addr} {p : Prg} (h : Rd encL 4 w (some ad) p) (i to : Nat) : Rd encL 4 w (some (ad.add (i * 4))) (seg p i to) := fun j x hj => by
  have hj' : p[i + j]? = some x := by
    unfold K.seg at hj
    rw [List.getElem?_drop, List.getElem?_take] at hj
    split at hj
    · exact hj
    · cases hj
  obtain ⟨_, e, hl, hc⟩ := h (i + j) x hj'
  cases e
  refine ⟨_, rfl, by rw [block_of_add]; exact hl, fun r u hu => ?_⟩
  rw [add_of_add, show i * 4 + (j * 4 + r) = (i + j) * 4 + r from by omega]
  exact hc r u hu
theorem seg_step (p : Prg) {k : Nat} (hk : k < p.length) : (seg p (k + 1) p.length).takeWhile (deep (ln p k).depth) = seg p (k + 1) (endOf p k) ∧ (seg p (k + 1) p.length).dropWhile (deep (ln p k).depth) = seg p (endOf p k) p.length :=
  seg_while (Nat.le_refl _) (endOf_le p hk) (by
    rcases endOf_stop (p := p) (i := k) hk with h | h
    · exact .inl h
    · exact .inr (by unfold deep; simp; exact h)) _ _ rfl (endOf_gt p k) fun x h1 h2 => by unfold deep; have := endOf_in (p := p) (i := k) h1 h2; simp; exact this
theorem lowI_y {p : Prg} {k : Nat} (hk : k < p.length) (h : (ln p k).kind = 11 ∧ (ln p k).b = 0) : lowI (seg p k p.length) = [⟨(ln p k).depth, 1, (ln p k).a, 0⟩, ⟨(ln p k).depth, 7, 0, 0⟩] ++ (lowI (seg p (k + 1) (endOf p k)) ++ ([⟨(ln p k).depth, 10, 0, 0⟩, ⟨(ln p k).depth + 1, 1, (ln p k).a, 0⟩] ++ lowI (seg p (endOf p k) p.length))) := by
  rw [seg_cons hk (Nat.le_refl _), lowI_with h, (seg_step p hk).1, (seg_step p hk).2]; rfl
theorem lowI_n {p : Prg} {k : Nat} (hk : k < p.length) (h : ¬ ((ln p k).kind = 11 ∧ (ln p k).b = 0)) : lowI (seg p k p.length) = [ln p k] ++ (lowI (seg p (k + 1) (endOf p k)) ++ lowI (seg p (endOf p k) p.length)) := by
  rw [seg_cons hk (Nat.le_refl _), lowI_other h, (seg_step p hk).1, (seg_step p hk).2]; rfl
theorem lowS_y {p : Prg} {k : Nat} (hk : k < p.length) (h : ¬ ((ln p k).kind ≠ 11 ∨ (ln p k).b = 1)) : lowS (seg p k p.length) = [⟨(ln p k).depth, 1, (ln p k).a, 0⟩, ⟨(ln p k).depth, 7, 0, 0⟩] ++ (lowS (seg p (k + 1) (endOf p k)) ++ ([⟨(ln p k).depth, 10, 0, 0⟩, ⟨(ln p k).depth + 1, 1, (ln p k).a, 0⟩] ++ lowS (seg p (endOf p k) p.length))) := by
  rw [seg_cons hk (Nat.le_refl _), lowS_with h, (seg_step p hk).1, (seg_step p hk).2]; rfl
theorem lowS_n {p : Prg} {k : Nat} (hk : k < p.length) (h : (ln p k).kind ≠ 11 ∨ (ln p k).b = 1) : lowS (seg p k p.length) = [ln p k] ++ lowS (seg p (k + 1) p.length) := by
  rw [seg_cons hk (Nat.le_refl _), lowS_other h]; rfl

/-- A call hands back lines in memory of its own. -/
def RetL (w : World) (l : Prg) (e : Ending) (w' : World) : Prop :=
  ∃ ad c, e = .returned (.slice (some ad) l.length c) ∧ Rd encL 4 w' (some ad) l ∧ w.heap.size ≤ ad.block ∧ ad.block < w'.heap.size ∧ l.length ≤ c ∧ Below w.heap.size w w'
theorem retL_of_own {w w' : World} {v : Value} {l : Prg} {base : Nat} (h : Own encL 4 37 base w' v l) (hb : w.heap.size ≤ base) (hn : v ≠ .slice none 0 0) (hw : Below w.heap.size w w') : RetL w l (.returned v) w' := by
  obtain ⟨g, c, rfl, hr, h1, h2, h3⟩ := h.some_ encL_len hn
  exact ⟨_, c, rfl, hr, by show w.heap.size ≤ g; omega, h2, h3, hw⟩

set_option maxHeartbeats 400000 in
theorem endOfQ_calls (p : Prg) (A : Option Addr) (c : Nat) (i : Nat) (w : World) (hp : Rd encL 4 w A p) (hn : p.length ≤ 4398046511104) (hi : i < p.length) :
    Calls Try.prog 47 #[.slice A p.length c, .int .i64 i] w fun e w' => e = .returned (.int .i64 (endOf p i)) ∧ ∃ n, w' = w.drewN n := by
  obtain ⟨ad, rfl, hab, hd, -, -, -⟩ := hp.line hi
  have HP := Lib.hid hp
  clear hp
  go_enter Try.func47, Try.ntmps47
  go_wp2
  go_loopw [5] (fun v w' => ∃ k : Nat, k ≤ p.length ∧ v = .int .i64 k ∧ Hid (endFrom p (ln p i).depth k = endOf p i) ∧ ∃ n, w' = w.drewN n) (fun v _ => p.length - (intOf v).toNat)
  case atStart => exact ⟨i + 1, hi, by go_num, rfl, 0, rfl⟩
  case round =>
    obtain ⟨k, hk, rfl, hb, n, rfl⟩ := hrel
    by_cases hlt : k < p.length
    · obtain ⟨ad', e, -, hd', -, -, -⟩ := HP.out.line hlt
      cases e
      by_cases hc : (ln p i).depth < (ln p k).depth
      · go_wp2
        go_quiet (fail)
        go_wp2
        go_roundw
        case rel => exact ⟨k + 1, hlt, by go_num, Lib.hid ((endFrom_in hlt hc).symm.trans hb.out), _, rfl⟩
        case measure => simp [intOf]; omega
      · go_wp2
        go_quiet (fail)
        go_wp2
        go_ret
        exact ⟨ret_int (by rw [← hb.out, endFrom_out (.inr (by omega))]), _, drewN_two _ _ _⟩
    · have hf : decide (k < p.length) = false := decide_eq_false hlt
      go_wp2
      go_quiet (fail)
      go_wp2
      go_ret
      exact ⟨ret_int (by rw [← hb.out, endFrom_out (.inl (by omega))]), _, drewN_two _ _ _⟩
end Go.Proofs.Ytihjakpedbaokaa.K
