/- Walk: lowering lines (impl.lowered). -/
import Derived.Test.YtihjakpedbaokaaC18
import Derived.Deep.RegionHeld3
import Derived.Deep.RegionWith
import Derived.Deep.CutRange
namespace Go.Proofs.Ytihjakpedbaokaa.K
open Go Go.RowKit

set_option maxHeartbeats 4000000 in
set_option maxRecDepth 100000 in
theorem loweredI_calls : ∀ (m : Nat) (p : Prg) (A : Option Addr) (c : Nat) (w : World), p.length = m → p.length ≤ 24 → p.length ≤ c → (∀ x ∈ p, 0 ≤ x.depth ∧ x.depth ≤ 5) → Rd encL 4 w A p →
    Calls Try.prog 25 #[.slice A p.length c] w (RetL w (lowI p)) := by
  intro m
  induction m using Nat.strongRecOn with
  | ind m ih =>
    intro p A c w hm hn hc hdp hp
    have IH := Lib.hid ih
    have HP := Lib.hid hp
    have hlow := lowI_len _ p rfl
    have HM := Lib.hid hm
    have HDP := Lib.hid hdp
    clear ih hp hm hdp
    have HO0 : Hid (Own encL 4 37 w.heap.size (w.alloc (.cells #[] 37)) (.slice (some ⟨w.heap.size, 0, none⟩) 0 0) []) := Lib.hid (Own.lit w #[] [] (Nat.le_refl _) (by simp [maxLen]) encL_len rfl)
    go_enter Try.func25, Try.ntmps25
    go_wp2
    go_loopw [3, 4] (fun V i w' => ∃ (y : Ext w) (l : Prg) (k : Nat), w' = y.1 ∧ i = .int .i64 k ∧ k ≤ p.length ∧ Hid (l ++ lowI (seg p k p.length) = lowI p) ∧ Hid (V ≠ .slice none 0 0) ∧ Hid (Own encL 4 37 w.heap.size y.1 V l)) (fun _ i _ => p.length - (intOf i).toNat)
    case atStart => exact ⟨⟨_, below_alloc (Below.refl _ _) _⟩, [], 0, rfl, rfl, Nat.zero_le _, Lib.hid (by rw [seg_all]; rfl), Lib.hid (by simp), HO0⟩
    case round =>
      obtain ⟨y, l, k, rfl, rfl, hk, hb, hV, HO⟩ := hrel
      clear HO0
      by_cases hlt : k < p.length
      · obtain ⟨ad, rfl, hab, g0, g1, g2, g3⟩ := (HP.out.ext y).line hlt
        have hel := endOf_le p hlt
        have heg := endOf_gt p k
        obtain ⟨e, he⟩ : ∃ e, e = endOf p k := ⟨_, rfl⟩
        obtain ⟨x, hx⟩ : ∃ x, x = ln p k := ⟨_, rfl⟩
        rw [← hx] at g0 g1 g2 g3
        rw [← he] at hel heg
        obtain ⟨d, kd, a, b⟩ := x
        simp only [] at g0 g1 g2 g3
        have HE := Lib.hid he
        have HX := Lib.hid hx
        clear he hx
        go_upto_region 4 with fail
        go_cut [5, 6] from 13 to 21 (fun a5 a6 wx => a5 = .pointer (some ⟨y.1.heap.size, 0, none⟩) ∧ a6 = .int .i64 e ∧ ∃ z : Ext y.1, wx = z.1 ∧ Hid (Blk z.1 y.1.heap.size 37 #[.int .i64 d, .int .i64 kd, .int .i64 a, .int .i64 b]))
        case first =>
          have ha : ∀ (n : Nat) (cs : Array Value) (T : TypeId) (j : Nat), ((y.1.drewN n).alloc (.cells cs T)).cell? ⟨y.1.heap.size, j, none⟩ = cs[j]? := fun n cs T j => (Blk.new (y.1.drewN n) T cs).cell j
          have hf : ∀ (n : Nat) (cs : Array Value) (T : TypeId) (j : Nat), ((y.1.drewN n).alloc (.cells cs T)).frozen? ⟨y.1.heap.size, j, none⟩ = false := fun n cs T j => (Blk.new (y.1.drewN n) T cs).frozen j
          have k0 : ∀ (n : Nat) (o : Obj), ((y.1.drewN n).alloc o).cell? (ad.add (k * 4)) = some (.int .i64 d) := fun n o => cell_alloc' o (show (y.1.drewN n).cell? _ = _ from g0)
          have k1 : ∀ (n : Nat) (o : Obj), ((y.1.drewN n).alloc o).cell? ⟨(ad.add (k * 4)).block, (ad.add (k * 4)).off + 1, none⟩ = some (.int .i64 kd) := fun n o => cell_alloc' o (show (y.1.drewN n).cell? _ = _ from g1)
          have k2 : ∀ (n : Nat) (o : Obj), ((y.1.drewN n).alloc o).cell? ⟨(ad.add (k * 4)).block, (ad.add (k * 4)).off + 2, none⟩ = some (.int .i64 a) := fun n o => cell_alloc' o (show (y.1.drewN n).cell? _ = _ from g2)
          have k3 : ∀ (n : Nat) (o : Obj), ((y.1.drewN n).alloc o).cell? ⟨(ad.add (k * 4)).block, (ad.add (k * 4)).off + 3, none⟩ = some (.int .i64 b) := fun n o => cell_alloc' o (show (y.1.drewN n).cell? _ = _ from g3)
          have l0 : ∀ (o : Obj), (y.1.alloc o).cell? (ad.add (k * 4)) = some (.int .i64 d) := fun o => cell_alloc' o g0
          have l1 : ∀ (o : Obj), (y.1.alloc o).cell? ⟨(ad.add (k * 4)).block, (ad.add (k * 4)).off + 1, none⟩ = some (.int .i64 kd) := fun o => cell_alloc' o g1
          have l2 : ∀ (o : Obj), (y.1.alloc o).cell? ⟨(ad.add (k * 4)).block, (ad.add (k * 4)).off + 2, none⟩ = some (.int .i64 a) := fun o => cell_alloc' o g2
          have l3 : ∀ (o : Obj), (y.1.alloc o).cell? ⟨(ad.add (k * 4)).block, (ad.add (k * 4)).off + 3, none⟩ = some (.int .i64 b) := fun o => cell_alloc' o g3
          go_region_with (go_at_call 47; refine (endOfQ_calls p (some ad) c k _ (by first | exact HP.out.ext y | exact (HP.out.ext y).alloc _) (by omega) hlt).mono ?_; rw [← HE.out]; rintro e5 w5 ⟨rfl, n5, rfl⟩)
          all_goals (
            clear ha hf k0 k1 k2 k3 l0 l1 l2 l3
            try go_wp2
            go_meet
            case rel =>
              generalize hq : World.setCell (World.setCell (World.setCell (World.setCell _ _ _) _ _) _ _) _ _ = wz
              have hA : Below y.1.heap.size y.1 (y.1.alloc (.cells #[.int .i64 0, .int .i64 0, .int .i64 0, .int .i64 0] 37)) := below_alloc (Below.refl _ _) _
              have h1 : Below y.1.heap.size y.1 wz := by
                rw [← hq]
                refine Below.setCell (p := ⟨y.1.heap.size, 3, none⟩) ?_ (Nat.le_refl _) _
                refine Below.setCell (p := ⟨y.1.heap.size, 2, none⟩) ?_ (Nat.le_refl _) _
                refine Below.setCell (p := ⟨y.1.heap.size, 1, none⟩) ?_ (Nat.le_refl _) _
                refine Below.setCell (p := ⟨y.1.heap.size, 0, none⟩) ?_ (Nat.le_refl _) _
                exact ⟨hA.os, hA.tape, hA.output, hA.size, hA.block⟩
              have h2 : Blk wz y.1.heap.size 37 #[.int .i64 d, .int .i64 kd, .int .i64 a, .int .i64 b] := by
                rw [← hq]
                refine Blk.set4 (x0 := .int .i64 0) (x1 := .int .i64 0) (x2 := .int .i64 0) (x3 := .int .i64 0) ?_ _ _ _ _
                exact Blk.new y.1 _ _
              exact ⟨rfl, rfl, ⟨wz, h1⟩, rfl, Lib.hid h2⟩)
        case rest =>
          obtain ⟨rfl, rfl, z, rfl, HB⟩ := hcut
          clear g0 g1 g2 g3
          have hsl : (seg p (k + 1) e).length = e - (k + 1) := seg_len hel
          have HC : ∀ A' c', Rd encL 4 z.1 A' (seg p (k + 1) e) → e - (k + 1) ≤ c' → Calls Try.prog 25 #[.slice A' ((e - (k + 1) : Nat)) c'] z.1 (RetL z.1 (lowI (seg p (k + 1) e))) := fun A' c' hr hc' => by
            rw [← hsl]
            exact IH.out _ (by have := HM.out; omega) _ A' c' z.1 rfl (by omega) (by omega) (fun x hx => HDP.out x (List.mem_of_mem_take (List.mem_of_mem_drop hx))) hr
          obtain ⟨A', HC2⟩ : ∃ A', Hid ((if c = k + 1 then some ad else some (ad.add ((k + 1) * 4))) = A' ∧ Calls Try.prog 25 #[.slice A' ((e - (k + 1) : Nat)) (c - (k + 1))] z.1 (RetL z.1 (lowI (seg p (k + 1) e)))) := by
            by_cases hcap : c = k + 1
            · have he2 : e = k + 1 := by omega
              exact ⟨some ad, Lib.hid ⟨if_pos hcap, HC _ _ (by rw [seg_nil (by omega)]; exact Rd.nil) (by omega)⟩⟩
            · exact ⟨_, Lib.hid ⟨if_neg hcap, HC _ _ (((HP.out.ext y).ext z).seg (k + 1) e) (by omega)⟩⟩
          obtain ⟨hif, HC3⟩ := HC2.out
          replace HC3 := Lib.hid HC3
          clear HC HC2
          obtain ⟨hd0, hd5⟩ : 0 ≤ d ∧ d ≤ 5 := by have := HDP.out (ln p k) (by unfold ln; simp [List.getElem?_eq_getElem hlt]); rw [← HX.out] at this; exact this
          obtain ⟨B5, hB5⟩ : ∃ B5, B5 = lowI (seg p (k + 1) e) := ⟨_, rfl⟩
          have hc3 := HC3.out
          rw [← hB5] at hc3
          replace HC3 := Lib.hid hc3
          have HB5 := Lib.hid hB5
          have hVz : ∀ b, u3.ownBlock = some b → w.heap.size ≤ b ∧ b < y.1.heap.size := fun b hb => HO.out.lt b hb
          have HVZ := Lib.hid hVz
          have hyw := y.2.size
          have hzy := z.2.size
          have hzl := HB.out.lt
          clear hc3 hB5 hVz hsl
          by_cases hy : kd = 11 ∧ b = 0
          · obtain ⟨rfl, rfl⟩ := hy
            have hbq := hb.out
            rw [lowI_y hlt (by rw [← HX.out]; exact And.intro rfl rfl), ← HX.out, ← HE.out, ← HB5.out] at hbq
            have HBQ := Lib.hid hbq
            have HLEN : Hid ((l ++ ([(⟨d, 1, a, 0⟩ : Line), ⟨d, 7, 0, 0⟩] ++ (B5 ++ ([(⟨d, 10, 0, 0⟩ : Line), ⟨d + 1, 1, a, 0⟩] ++ lowI (seg p e p.length))))).length ≤ 96) := Lib.hid (by rw [HBQ.out]; omega)
            clear hbq hb
            go_wp2_with (first
              | (go_at_call 25; (refine HC3.out.mono ?_; rintro e5 w5 ⟨bad, bc, rfl, hr5, hf5, hl5, hc5, hb5⟩; have HR5 := Lib.hid hr5; have HY5 : Hid (Below w.heap.size w w5) := Lib.hid ((below_trans y.2 z.2).trans (hb5.mono (by omega))); have HO5 : Hid (Own encL 4 37 w.heap.size w5 u3 l) := Lib.hid ((HO.out.ext z).ext ⟨w5, hb5⟩); have HL5 : Hid (Blk w5 y.1.heap.size 37 #[.int .i64 d, .int .i64 (11), .int .i64 a, .int .i64 (0)]) := Lib.hid (HB.out.ext ⟨w5, hb5⟩); have h5s := hb5.size; have l0 := HL5.out.cell 0; have l1 := HL5.out.cell 1; have l2 := HL5.out.cell 2; have l3 := HL5.out.cell 3; have ll := HL5.out.lt; clear hr5 hb5))
              | (at_builtin; (refine wpList_append_list elemLine rfl rfl (v := u3) rfl (HO5.out.alloc _) [⟨d, 1, a, 0⟩, ⟨d, 7, 0, 0⟩] ⟨w5.heap.size, 0, none⟩ 2 rfl encL_len (rd_lit w5 _ _ (by simp [maxLen]) encL_len rfl) encL_one (by have h := HLEN.out; simp only [List.length_append, List.length_cons, List.length_nil] at h ⊢; omega) (by omega) (by simp; omega) ?_; intro v6 w6 ho6 hg6 hn6; have HO6 := Lib.hid ho6; have hg56 := ((Gr.refl w5 u3).alloc _).trans hg6; have HG6 := Lib.hid hg56; have HN6 := Lib.hid hn6; have HR6 : Hid (Rd encL 4 w6 (some bad) B5) := Lib.hid (hg56.rd HR5.out fun ad e _ hV => by cases e; have := (HVZ.out _ hV).2; omega); have h6s := hg56.size; clear ho6 hg6 hn6 hg56 l0 l1 l2 l3))
              | (at_builtin; (refine wpList_append_list elemLine rfl rfl (v := v6) rfl HO6.out B5 bad bc rfl encL_len HR6.out encL_one (by have h := HLEN.out; simp only [List.length_append, List.length_cons, List.length_nil] at h ⊢; omega) (by omega) (by omega) ?_; intro v7 w7 ho7 hg7 hn7; have HO7 := Lib.hid ho7; have HG7 := Lib.hid (HG6.out.trans hg7); have HN7 := Lib.hid hn7; have hl7 : Blk w7 y.1.heap.size 37 #[.int .i64 d, .int .i64 11, .int .i64 a, .int .i64 0] := HG7.out.blk HL5.out (fun hV => by have := (HVZ.out _ hV).2; omega); have l0 := hl7.cell 0; have l2 := hl7.cell 2; have ll7 := hl7.lt; have h7s := hg7.size; clear ho7 hg7 hn7 hl7))
              | (at_builtin; (refine wpList_append_list elemLine rfl rfl (v := v7) rfl (HO7.out.alloc _) [⟨d, 10, 0, 0⟩, ⟨d + 1, 1, a, 0⟩] ⟨w7.heap.size, 0, none⟩ 2 rfl encL_len (rd_lit w7 _ _ (by simp [maxLen]) encL_len rfl) encL_one (by have h := HLEN.out; simp only [List.length_append, List.length_cons, List.length_nil] at h ⊢; omega) (by omega) (by simp; omega) ?_; intro v8 w8 ho8 hg8 hn8; have HO8 := Lib.hid ho8; have HG8 := Lib.hid ((HG7.out.alloc _).trans hg8); have HN8 := Lib.hid hn8; clear ho8 hg8 hn8 l0 l2)))
            go_roundw
            case rel => exact ⟨⟨w8, HY5.out.trans (HG8.out.below (by omega) fun b hb => (HVZ.out b hb).1)⟩, _, e, rfl, rfl, hel, Lib.hid (by rw [← HBQ.out]; simp), Lib.hid (HN8.out (HN7.out (HN6.out hV.out))), HO8⟩
            case measure => simp [intOf]; omega
          · have hbq := hb.out
            rw [lowI_n hlt (by rw [← HX.out]; exact hy), ← HX.out, ← HE.out, ← HB5.out] at hbq
            have HBQ := Lib.hid hbq
            have HLEN : Hid ((l ++ ([(⟨d, kd, a, b⟩ : Line)] ++ (B5 ++ lowI (seg p e p.length)))).length ≤ 96) := Lib.hid (by rw [HBQ.out]; omega)
            clear hbq hb
            by_cases hk11 : kd = 11
            · have hb0 : (b == 0) = false := beq_eq_false_iff_ne.mpr fun h => hy ⟨hk11, h⟩
              have hkt : (kd == 11) = true := by simp [hk11]
              clear hy hk11
              go_wp2_with (first | (go_at_call 25; (refine HC3.out.mono ?_; rintro e5 w5 ⟨bad, bc, rfl, hr5, hf5, hl5, hc5, hb5⟩; have HR5 := Lib.hid hr5; have HY5 : Hid (Below w.heap.size w w5) := Lib.hid ((below_trans y.2 z.2).trans (hb5.mono (by omega))); have HO5 : Hid (Own encL 4 37 w.heap.size w5 u3 l) := Lib.hid ((HO.out.ext z).ext ⟨w5, hb5⟩); have HL5 : Hid (Blk w5 y.1.heap.size 37 #[.int .i64 d, .int .i64 (kd), .int .i64 a, .int .i64 (b)]) := Lib.hid (HB.out.ext ⟨w5, hb5⟩); have h5s := hb5.size; have l0 := HL5.out.cell 0; have l1 := HL5.out.cell 1; have l2 := HL5.out.cell 2; have l3 := HL5.out.cell 3; have ll := HL5.out.lt; clear hr5 hb5)) | (at_builtin; (refine wpList_append_list elemLine rfl rfl (v := u3) rfl (HO5.out.alloc _) [⟨d, kd, a, b⟩] ⟨w5.heap.size, 0, none⟩ 1 rfl encL_len (rd_lit w5 _ _ (by simp [maxLen]) encL_len rfl) encL_one (by have h := HLEN.out; simp only [List.length_append, List.length_cons, List.length_nil] at h ⊢; omega) (by omega) (by simp; omega) ?_; intro v6 w6 ho6 hg6 hn6; have HO6 := Lib.hid ho6; have hg56 := ((Gr.refl w5 u3).alloc _).trans hg6; have HG6 := Lib.hid hg56; have HN6 := Lib.hid hn6; have HR6 : Hid (Rd encL 4 w6 (some bad) B5) := Lib.hid (hg56.rd HR5.out fun ad e _ hV => by cases e; have := (HVZ.out _ hV).2; omega); have h6s := hg56.size; clear ho6 hg6 hn6 hg56 l0 l1 l2 l3)) | (at_builtin; (refine wpList_append_list elemLine rfl rfl (v := v6) rfl HO6.out B5 bad bc rfl encL_len HR6.out encL_one (by have h := HLEN.out; simp only [List.length_append, List.length_cons, List.length_nil] at h ⊢; omega) (by omega) (by omega) ?_; intro v7 w7 ho7 hg7 hn7; have HO7 := Lib.hid ho7; have HG7 := Lib.hid (HG6.out.trans hg7); have HN7 := Lib.hid hn7; clear ho7 hg7 hn7)))
              go_roundw
              case rel => exact ⟨⟨w7, HY5.out.trans (HG7.out.below (by omega) fun b hb => (HVZ.out b hb).1)⟩, _, e, rfl, rfl, hel, Lib.hid (by rw [← HBQ.out]; simp), Lib.hid (HN7.out (HN6.out hV.out)), HO7⟩
              case measure => simp [intOf]; omega
            · have hkt : (kd == 11) = false := beq_eq_false_iff_ne.mpr hk11
              clear hy hk11
              go_wp2_with (first | (go_at_call 25; (refine HC3.out.mono ?_; rintro e5 w5 ⟨bad, bc, rfl, hr5, hf5, hl5, hc5, hb5⟩; have HR5 := Lib.hid hr5; have HY5 : Hid (Below w.heap.size w w5) := Lib.hid ((below_trans y.2 z.2).trans (hb5.mono (by omega))); have HO5 : Hid (Own encL 4 37 w.heap.size w5 u3 l) := Lib.hid ((HO.out.ext z).ext ⟨w5, hb5⟩); have HL5 : Hid (Blk w5 y.1.heap.size 37 #[.int .i64 d, .int .i64 (kd), .int .i64 a, .int .i64 (b)]) := Lib.hid (HB.out.ext ⟨w5, hb5⟩); have h5s := hb5.size; have l0 := HL5.out.cell 0; have l1 := HL5.out.cell 1; have l2 := HL5.out.cell 2; have l3 := HL5.out.cell 3; have ll := HL5.out.lt; clear hr5 hb5)) | (at_builtin; (refine wpList_append_list elemLine rfl rfl (v := u3) rfl (HO5.out.alloc _) [⟨d, kd, a, b⟩] ⟨w5.heap.size, 0, none⟩ 1 rfl encL_len (rd_lit w5 _ _ (by simp [maxLen]) encL_len rfl) encL_one (by have h := HLEN.out; simp only [List.length_append, List.length_cons, List.length_nil] at h ⊢; omega) (by omega) (by simp; omega) ?_; intro v6 w6 ho6 hg6 hn6; have HO6 := Lib.hid ho6; have hg56 := ((Gr.refl w5 u3).alloc _).trans hg6; have HG6 := Lib.hid hg56; have HN6 := Lib.hid hn6; have HR6 : Hid (Rd encL 4 w6 (some bad) B5) := Lib.hid (hg56.rd HR5.out fun ad e _ hV => by cases e; have := (HVZ.out _ hV).2; omega); have h6s := hg56.size; clear ho6 hg6 hn6 hg56 l0 l1 l2 l3)) | (at_builtin; (refine wpList_append_list elemLine rfl rfl (v := v6) rfl HO6.out B5 bad bc rfl encL_len HR6.out encL_one (by have h := HLEN.out; simp only [List.length_append, List.length_cons, List.length_nil] at h ⊢; omega) (by omega) (by omega) ?_; intro v7 w7 ho7 hg7 hn7; have HO7 := Lib.hid ho7; have HG7 := Lib.hid (HG6.out.trans hg7); have HN7 := Lib.hid hn7; clear ho7 hg7 hn7)))
              go_roundw
              case rel => exact ⟨⟨w7, HY5.out.trans (HG7.out.below (by omega) fun b hb => (HVZ.out b hb).1)⟩, _, e, rfl, rfl, hel, Lib.hid (by rw [← HBQ.out]; simp), Lib.hid (HN7.out (HN6.out hV.out)), HO7⟩
              case measure => simp [intOf]; omega
      · have hkk : k = p.length := by omega
        subst hkk
        have he : l = lowI p := by rw [← hb.out, seg_nil (Nat.le_refl _), lowI_nil, List.append_nil]
        subst he
        go_wp2
        go_ret
        exact retL_of_own HO.out (Nat.le_refl _) hV.out y.2
end Go.Proofs.Ytihjakpedbaokaa.K
