/- Walks: lowering lines, lowering a program (spec.lowered, spec.LowerWith). -/
import Derived.Test.YtihjakpedbaokaaC20
import Derived.Test.YtihjakpedbaokaaC01
namespace Go.Proofs.Ytihjakpedbaokaa.K
open Go Go.RowKit

theorem lowS_len {p : Prg} (h : ∀ l ∈ p, l.kind = 11 → l.b = 0 ∨ l.b = 1) : (lowS p).length ≤ 4 * p.length := by rw [← low_eq _ p rfl h]; exact lowI_len _ p rfl
set_option maxHeartbeats 4000000 in
set_option maxRecDepth 100000 in
theorem loweredS_calls : ∀ (m : Nat) (p : Prg) (A : Option Addr) (c : Nat) (w : World), p.length = m → p.length ≤ 24 → p.length ≤ c → (∀ x ∈ p, 0 ≤ x.depth ∧ x.depth ≤ 5) → (∀ l ∈ p, l.kind = 11 → l.b = 0 ∨ l.b = 1) → Rd encL 4 w A p →
    Calls Try.prog 28 #[.slice A p.length c] w (RetL w (lowS p)) := by
  intro m
  induction m using Nat.strongRecOn with
  | ind m ih =>
    intro p A c w hm hn hc hdp hb1 hp
    have IH := Lib.hid ih
    have HP := Lib.hid hp
    have hlow := lowS_len hb1
    have HM := Lib.hid hm
    have HDP := Lib.hid hdp
    have HB1 := Lib.hid hb1
    clear ih hp hm hdp hb1
    have HO0 : Hid (Own encL 4 37 w.heap.size (w.alloc (.cells #[] 37)) (.slice (some ⟨w.heap.size, 0, none⟩) 0 0) []) := Lib.hid (Own.lit w #[] [] (Nat.le_refl _) (by simp [maxLen]) encL_len rfl)
    go_enter Try.func28, Try.ntmps28
    go_wp2
    go_loopw [3, 4] (fun V i w' => ∃ (y : Ext w) (l : Prg) (k : Nat), w' = y.1 ∧ i = .int .i64 k ∧ k ≤ p.length ∧ Hid (l ++ lowS (seg p k p.length) = lowS p) ∧ Hid (V ≠ .slice none 0 0) ∧ Hid (Own encL 4 37 w.heap.size y.1 V l)) (fun _ i _ => p.length - (intOf i).toNat)
    case atStart => exact ⟨⟨_, below_alloc (Below.refl _ _) _⟩, [], 0, rfl, rfl, Nat.zero_le _, Lib.hid (by rw [seg_all]; rfl), Lib.hid (by simp), HO0⟩
    case round =>
      obtain ⟨y, l, k, rfl, rfl, hk, hb, hV, HO⟩ := hrel
      clear HO0
      by_cases hlt : k < p.length
      · obtain ⟨ad, rfl, hab, g0, g1, g2, g3⟩ := (HP.out.ext y).line hlt
        have hel := endOf_le p hlt
        have heg := endOf_gt p k
        obtain ⟨e, he⟩ : ∃ e, e = endOf p k := ⟨_, rfl⟩
        obtain ⟨x, hx⟩ : ∃ x, x = ln p k := ⟨_, rfl⟩
        have hxm : ln p k ∈ p := by unfold ln; simp [List.getElem?_eq_getElem hlt]
        have hxd := HDP.out _ hxm
        have hxb := HB1.out _ hxm
        rw [← hx] at g0 g1 g2 g3 hxd hxb
        rw [← he] at hel heg
        obtain ⟨d, kd, a, b⟩ := x
        simp only [] at g0 g1 g2 g3 hxd hxb
        obtain ⟨hd0, hd5⟩ := hxd
        have HXB := Lib.hid hxb
        have HE := Lib.hid he
        have HX := Lib.hid hx
        have hVz : ∀ b, u3.ownBlock = some b → w.heap.size ≤ b ∧ b < y.1.heap.size := fun b hb => HO.out.lt b hb
        have HVZ := Lib.hid hVz
        have hyw := y.2.size
        clear he hx hxb hxm hVz
        by_cases hy : kd ≠ 11 ∨ b = 1
        · have hbq := hb.out
          rw [lowS_n hlt (by rw [← HX.out]; exact hy), ← HX.out] at hbq
          have HBQ := Lib.hid hbq
          have HLEN : Hid ((l ++ ([(⟨d, kd, a, b⟩ : Line)] ++ lowS (seg p (k + 1) p.length))).length ≤ 96) := Lib.hid (by rw [HBQ.out]; omega)
          clear hbq hb
          by_cases hk11 : kd = 11
          · have hkt : (kd != 11) = false := by simp [hk11]
            have hbt : (b == 1) = true := by rcases hy with h | h; exact absurd hk11 h; simp [h]
            clear hy hk11
            go_wp2_with (at_builtin; (refine wpList_append_list elemLine rfl rfl (v := u3) rfl ((HO.out.alloc (.cells #[.int .i64 d, .int .i64 kd, .int .i64 a, .int .i64 b] 37)).alloc _) [⟨d, kd, a, b⟩] ⟨y.1.heap.size + 1, 0, none⟩ 1 rfl encL_len (by have h := rd_lit (E := 37) (y.1.alloc (.cells #[.int .i64 d, .int .i64 kd, .int .i64 a, .int .i64 b] 37)) #[.int .i64 d, .int .i64 kd, .int .i64 a, .int .i64 b] [(⟨d, kd, a, b⟩ : Line)] (by simp [maxLen]) encL_len rfl; rw [show (y.1.alloc (.cells #[.int .i64 d, .int .i64 kd, .int .i64 a, .int .i64 b] 37)).heap.size = y.1.heap.size + 1 from by simp] at h; exact h) encL_one (by have h := HLEN.out; simp only [List.length_append, List.length_cons, List.length_nil] at h ⊢; omega) (by omega) (by simp; omega) ?_; intro v6 w6 ho6 hg6 hn6; have HO6 := Lib.hid ho6; have HG6 := Lib.hid ((((Gr.refl y.1 u3).alloc (.cells #[.int .i64 d, .int .i64 kd, .int .i64 a, .int .i64 b] 37)).alloc _).trans hg6); have HN6 := Lib.hid hn6; clear ho6 hg6 hn6))
            go_roundw
            case rel => exact ⟨⟨w6, y.2.trans (HG6.out.below (by omega) fun b hb => (HVZ.out b hb).1)⟩, _, k + 1, rfl, by go_num, hlt, Lib.hid (by rw [← HBQ.out]; simp), Lib.hid (HN6.out hV.out), HO6⟩
            case measure => simp [intOf]; omega
          · have hkt : (kd != 11) = true := bne_iff_ne.mpr hk11
            clear hy hk11
            go_wp2_with (at_builtin; (refine wpList_append_list elemLine rfl rfl (v := u3) rfl ((HO.out.alloc (.cells #[.int .i64 d, .int .i64 kd, .int .i64 a, .int .i64 b] 37)).alloc _) [⟨d, kd, a, b⟩] ⟨y.1.heap.size + 1, 0, none⟩ 1 rfl encL_len (by have h := rd_lit (E := 37) (y.1.alloc (.cells #[.int .i64 d, .int .i64 kd, .int .i64 a, .int .i64 b] 37)) #[.int .i64 d, .int .i64 kd, .int .i64 a, .int .i64 b] [(⟨d, kd, a, b⟩ : Line)] (by simp [maxLen]) encL_len rfl; rw [show (y.1.alloc (.cells #[.int .i64 d, .int .i64 kd, .int .i64 a, .int .i64 b] 37)).heap.size = y.1.heap.size + 1 from by simp] at h; exact h) encL_one (by have h := HLEN.out; simp only [List.length_append, List.length_cons, List.length_nil] at h ⊢; omega) (by omega) (by simp; omega) ?_; intro v6 w6 ho6 hg6 hn6; have HO6 := Lib.hid ho6; have HG6 := Lib.hid ((((Gr.refl y.1 u3).alloc (.cells #[.int .i64 d, .int .i64 kd, .int .i64 a, .int .i64 b] 37)).alloc _).trans hg6); have HN6 := Lib.hid hn6; clear ho6 hg6 hn6))
            go_roundw
            case rel => exact ⟨⟨w6, y.2.trans (HG6.out.below (by omega) fun b hb => (HVZ.out b hb).1)⟩, _, k + 1, rfl, by go_num, hlt, Lib.hid (by rw [← HBQ.out]; simp), Lib.hid (HN6.out hV.out), HO6⟩
            case measure => simp [intOf]; omega
        · have hy2 : kd = 11 ∧ b = 0 := by have := HXB.out; omega
          obtain ⟨rfl, rfl⟩ := hy2
          obtain ⟨B5, hB5⟩ : ∃ B5, B5 = lowS (seg p (k + 1) e) := ⟨_, rfl⟩
          have hbq := hb.out
          rw [lowS_y hlt (by rw [← HX.out]; exact hy), ← HX.out, ← HE.out, ← hB5] at hbq
          have HBQ := Lib.hid hbq
          have HLEN : Hid ((l ++ ([(⟨d, 1, a, 0⟩ : Line), ⟨d, 7, 0, 0⟩] ++ (B5 ++ ([(⟨d, 10, 0, 0⟩ : Line), ⟨d + 1, 1, a, 0⟩] ++ lowS (seg p e p.length))))).length ≤ 96) := Lib.hid (by rw [HBQ.out]; omega)
          have hsl : (seg p (k + 1) e).length = e - (k + 1) := seg_len hel
          have HC : ∀ (wx : Ext w) A' c', Rd encL 4 wx.1 A' (seg p (k + 1) e) → e - (k + 1) ≤ c' → Calls Try.prog 28 #[.slice A' ((e - (k + 1) : Nat)) c'] wx.1 (RetL wx.1 B5) := fun wx A' c' hr hc' => by
            rw [← hsl, hB5]
            exact IH.out _ (by have := HM.out; omega) _ A' c' wx.1 rfl (by omega) (by omega) (fun x hx => HDP.out x (List.mem_of_mem_take (List.mem_of_mem_drop hx))) (fun x hx => HB1.out x (List.mem_of_mem_take (List.mem_of_mem_drop hx))) hr
          obtain ⟨A', HC2⟩ : ∃ A', Hid ((if c = k + 1 then some ad else some (ad.add ((k + 1) * 4))) = A' ∧ ∀ wx : Ext w, Calls Try.prog 28 #[.slice A' ((e - (k + 1) : Nat)) (c - (k + 1))] wx.1 (RetL wx.1 B5)) := by
            by_cases hcap : c = k + 1
            · have he2 : e = k + 1 := by omega
              exact ⟨some ad, Lib.hid ⟨if_pos hcap, fun wx => HC wx _ _ (by rw [seg_nil (by omega)]; exact Rd.nil) (by omega)⟩⟩
            · exact ⟨_, Lib.hid ⟨if_neg hcap, fun wx => HC wx _ _ ((HP.out.ext wx).seg (k + 1) e) (by omega)⟩⟩
          obtain ⟨hif, hc3⟩ := HC2.out
          have HC3 := Lib.hid hc3
          clear HC HC2 hc3 hbq hb hB5 hy hsl
          have LX : Hid (Blk (y.1.alloc (.cells #[.int .i64 d, .int .i64 11, .int .i64 a, .int .i64 0] 37)) y.1.heap.size 37 #[.int .i64 d, .int .i64 11, .int .i64 a, .int .i64 0]) := Lib.hid (Blk.new _ _ _)
          go_wp2_with (first
            | (go_at_call 50; refine (calls_ext0 (W := y.1.alloc (.cells #[.int .i64 d, .int .i64 11, .int .i64 a, .int .i64 0] 37)) (blockEnd_calls p (some ad) c k _ ((HP.out.ext y).alloc _) (by omega) hlt)).mono ?_; rw [← HE.out]; rintro e5 w5 ⟨rfl, z, rfl⟩; have HO5 : Hid (Own encL 4 37 w.heap.size z.1 u3 l) := Lib.hid ((HO.out.alloc _).ext z); have hl5 : Blk z.1 y.1.heap.size 37 #[.int .i64 d, .int .i64 11, .int .i64 a, .int .i64 0] := LX.out.ext z; have HL5 := Lib.hid hl5; have HY5 := Lib.hid (below_trans (below_trans y.2 (below_alloc (Below.refl _ _) _)) z.2); have h5s := z.2.size; have l0 := hl5.cell 0; have l2 := hl5.cell 2; have ll := hl5.lt; clear hl5)
            | (at_builtin; (refine wpList_append_list elemLine rfl rfl (v := u3) rfl (HO5.out.alloc _) [⟨d, 1, a, 0⟩, ⟨d, 7, 0, 0⟩] ⟨z.1.heap.size, 0, none⟩ 2 rfl encL_len (rd_lit z.1 _ _ (by simp [maxLen]) encL_len rfl) encL_one (by have h := HLEN.out; simp only [List.length_append, List.length_cons, List.length_nil] at h ⊢; omega) (by omega) (by simp; omega) ?_; intro v6 w6 ho6 hg6 hn6; have HO6 := Lib.hid ho6; have hg56 := ((Gr.refl z.1 u3).alloc _).trans hg6; have HG6 := Lib.hid hg56; have HN6 := Lib.hid hn6; have HY6 := Lib.hid (HY5.out.trans (hg56.below (B := w.heap.size) (by omega) fun b hb => (HVZ.out b hb).1)); have h6s := hg56.size; clear ho6 hg6 hn6 hg56 l0 l2))
            | (go_at_call 28; refine (HC3.out ⟨w6, HY6.out⟩).mono ?_; rintro e7 w7 ⟨bad, bc, rfl, hr7, hf7, hl7, hc7, hb7⟩; have HR7 := Lib.hid hr7; have HO7 : Hid (Own encL 4 37 w.heap.size w7 v6 (l ++ [⟨d, 1, a, 0⟩, ⟨d, 7, 0, 0⟩])) := Lib.hid (HO6.out.ext ⟨w7, hb7⟩); have HG7 := Lib.hid (HG6.out.trans (Gr.of_below v6 hb7)); have h7s := hb7.size; clear hr7 hb7)
            | (at_builtin; (refine wpList_append_list elemLine rfl rfl (v := v6) rfl HO7.out B5 bad bc rfl encL_len HR7.out encL_one (by have h := HLEN.out; simp only [List.length_append, List.length_cons, List.length_nil] at h ⊢; omega) (by omega) (by omega) ?_; intro v8 w8 ho8 hg8 hn8; have HO8 := Lib.hid ho8; have HG8 := Lib.hid (HG7.out.trans hg8); have HN8 := Lib.hid hn8; have hl8 : Blk w8 y.1.heap.size 37 #[.int .i64 d, .int .i64 11, .int .i64 a, .int .i64 0] := HG8.out.blk HL5.out (fun hV => by have := (HVZ.out _ hV).2; omega); have l0 := hl8.cell 0; have l2 := hl8.cell 2; have ll8 := hl8.lt; have h8s := hg8.size; clear ho8 hg8 hn8 hl8))
            | (at_builtin; (refine wpList_append_list elemLine rfl rfl (v := v8) rfl (HO8.out.alloc _) [⟨d, 10, 0, 0⟩, ⟨d + 1, 1, a, 0⟩] ⟨w8.heap.size, 0, none⟩ 2 rfl encL_len (rd_lit w8 _ _ (by simp [maxLen]) encL_len rfl) encL_one (by have h := HLEN.out; simp only [List.length_append, List.length_cons, List.length_nil] at h ⊢; omega) (by omega) (by simp; omega) ?_; intro v9 w9 ho9 hg9 hn9; have HO9 := Lib.hid ho9; have HG9 := Lib.hid ((HG8.out.alloc _).trans hg9); have HN9 := Lib.hid hn9; clear ho9 hg9 hn9 l0 l2)))
          go_roundw
          case rel => exact ⟨⟨w9, HY5.out.trans (HG9.out.below (by omega) fun b hb => (HVZ.out b hb).1)⟩, _, e, rfl, rfl, hel, Lib.hid (by rw [← HBQ.out]; simp), Lib.hid (HN9.out (HN8.out (HN6.out hV.out))), HO9⟩
          case measure => simp [intOf]; omega
      · have hkk : k = p.length := by omega
        subst hkk
        have he : l = lowS p := by rw [← hb.out, seg_nil (Nat.le_refl _), lowS_nil, List.append_nil]
        subst he
        go_wp2
        go_ret
        exact retL_of_own HO.out (Nat.le_refl _) hV.out y.2
end Go.Proofs.Ytihjakpedbaokaa.K
