/- Walk: a try (impl: machine.try). -/
import Derived.Test.YtihjakpedbaokaaC09
namespace Go.Proofs.Ytihjakpedbaokaa.K
open Go Go.RowKit

theorem Step.rd {w w' : World} {m m' : M} {α : Type} {enc : α → List Value} {k : Nat} {A : Option Addr} {xs : List α} (h : Step w m w' m') (hr : Rd enc k w A xs) (hn : ∀ ad, A = some ad → ad.block < w.heap.size → ¬ m.blk ad.block) : Rd enc k w' A xs := fun i x hi => by
  obtain ⟨ad, e, hl, hc⟩ := hr i x hi
  exact ⟨ad, e, Nat.lt_of_lt_of_le hl h.size, fun j u hu => (World.cell?_of_block (w := w) (by rw [block_of_add]; exact h.block _ hl (hn ad e hl))).trans (hc j u hu)⟩
theorem tryGo_cons (T : Tree) (p : Prg) (B : Ru) (hd : Int) (k : Nat) (l : List Nat) (x : En × En × St) : tryGo T p B hd (k :: l) x = tryGo T p B hd l (partR T p B hd x k) := rfl

theorem Mach.set2 {E : Env} {w : World} {m : M} {s : St} {b : Nat} {cs : Array Value} (h : Mach E w m s) (hb : Blk w b 56 cs) (hbase : E.base ≤ b) (u0 u1 : Value) : Mach E ((w.setCell ⟨b, 0, none⟩ u0).setCell ⟨b, 1, none⟩ u1) m s :=
  have hn := h.notBlk hb (by decide) (by decide) (by decide)
  (h.setCell hn hbase _).setCell hn hbase _
theorem Step.set2 {w w' : World} {m m' : M} {b : Nat} (h : Step w m w' m') (hb : w.heap.size ≤ b) (u0 u1 : Value) : Step w m ((w'.setCell ⟨b, 0, none⟩ u0).setCell ⟨b, 1, none⟩ u1) m' := (h.setCell (.inl hb) _).setCell (.inl hb) _
theorem Blk.far2 {w : World} {g b : Nat} {t : TypeId} {cs : Array Value} (h : Blk w g t cs) (hne : g ≠ b) (u0 u1 : Value) : Blk ((w.setCell ⟨b, 0, none⟩ u0).setCell ⟨b, 1, none⟩ u1) g t cs := Blk.far (Blk.far h hne _) hne _

section
variable {T : Tree} {p : Prg} {B : Ru} {k : Nat} {hd d a b : Int} {e st : En} {s : St}
theorem partR_8y (h : ln p k = ⟨d, 8, a, b⟩) (h1 : st.e = 2) (h2 : isc T (fl s.flt st.v.toNat).cls a = true) : partR T p B hd (e, st, s) k = ((B k st.v s).1, ⟨-1, 0⟩, (B k st.v s).2) := by
  have : partR T p B hd (e, st, s) k = if st.e = 2 ∧ isc T (fl s.flt st.v.toNat).cls a = true then ((B k st.v s).1, ⟨-1, 0⟩, (B k st.v s).2) else (e, st, s) := by unfold partR; rw [h]; rfl
  rw [this, if_pos ⟨h1, h2⟩]
theorem partR_8n (h : ln p k = ⟨d, 8, a, b⟩) (h1 : ¬ (st.e = 2 ∧ isc T (fl s.flt st.v.toNat).cls a = true)) : partR T p B hd (e, st, s) k = (e, st, s) := by
  have : partR T p B hd (e, st, s) k = if st.e = 2 ∧ isc T (fl s.flt st.v.toNat).cls a = true then ((B k st.v s).1, ⟨-1, 0⟩, (B k st.v s).2) else (e, st, s) := by unfold partR; rw [h]; rfl
  rw [this, if_neg h1]
theorem partR_9y (h : ln p k = ⟨d, 9, a, b⟩) (h1 : st.e = 0) : partR T p B hd (e, st, s) k = ((B k hd s).1, st, (B k hd s).2) := by
  have : partR T p B hd (e, st, s) k = if st.e = 0 then ((B k hd s).1, st, (B k hd s).2) else (e, st, s) := by unfold partR; rw [h]; rfl
  rw [this, if_pos h1]
theorem partR_9n (h : ln p k = ⟨d, 9, a, b⟩) (h1 : ¬ st.e = 0) : partR T p B hd (e, st, s) k = (e, st, s) := by
  have : partR T p B hd (e, st, s) k = if st.e = 0 then ((B k hd s).1, st, (B k hd s).2) else (e, st, s) := by unfold partR; rw [h]; rfl
  rw [this, if_neg h1]
theorem partR_10 (h : ln p k = ⟨d, 10, a, b⟩) (z : Int) (hz : z = if e.e = 2 then e.v else hd) : partR T p B hd (e, st, s) k = (if (B k z s).1.e ≠ 0 then (B k z s).1 else e, st, (B k z s).2) := by subst hz; unfold partR; rw [h]; rfl
theorem partR_o {kd : Int} (h : ln p k = ⟨d, kd, a, b⟩) (h1 : kd ≠ 8) (h2 : kd ≠ 9) (h3 : kd ≠ 10) : partR T p B hd (e, st, s) k = (e, st, s) := by
  unfold partR; rw [h]; simp only []; rw [if_neg h1, if_neg h2, if_neg h3]
end

set_option maxHeartbeats 8000000 in
set_option maxRecDepth 100000 in
theorem try_calls (E : Env) (hE : EnvOk E) (ok : Nat → Prop) (B : Ru) (hB : BCalls E ok B) (hg : GoodR E.t.length B) (l : List Nat) (Al : Option Addr) (cl' : Nat) (hd : Int) (s : St) (m : M) (w : World)
    (hl : Rd encN 1 w Al l) (hl2 : 2 ≤ l.length) (hlc : l.length ≤ cl') (hll : l.length ≤ 25) (hm : ∀ x ∈ l, x < E.p.length ∧ ok x) (hn : ∀ ad, Al = some ad → ad.block < w.heap.size → ¬ m.blk ad.block)
    (h : Mach E w m s) (hs : SOk E.t.length s) (h1 : -1 ≤ hd) (h2 : hd < s.flt.length) (hlg : (tryR E.t E.p B l hd s).2.log.length ≤ 1099511627776) (hfl : (tryR E.t E.p B l hd s).2.flt.length ≤ 1099511627776) :
    Calls Try.prog 54 #[.pointer (some ⟨m.g, 0, none⟩), .slice Al l.length cl', .int .i64 hd] w (MRet E w m (tryR E.t E.p B l hd s)) := by
  obtain ⟨g, lv, fv⟩ := m
  obtain ⟨al, rfl, hal, gl0⟩ := hl.nat (show 0 < l.length by omega)
  obtain ⟨i0, hi0⟩ : ∃ i0, i0 = l.getD 0 0 := ⟨_, rfl⟩
  rw [← hi0] at gl0
  have him : i0 < E.p.length ∧ ok i0 := hm i0 (by rw [hi0]; simp [List.getElem?_eq_getElem (show 0 < l.length by omega)])
  have hR : tryR E.t E.p B l hd s = ((tryGo E.t E.p B hd (l.drop 1) ((B i0 hd s).1, (B i0 hd s).1, (B i0 hd s).2)).1, (tryGo E.t E.p B hd (l.drop 1) ((B i0 hd s).1, (B i0 hd s).1, (B i0 hd s).2)).2.2) := by unfold tryR; rw [← hi0]
  have hgood := hg i0 hd s hs h1 h2
  rw [hR] at hlg hfl ⊢
  have hgt := good_tryGo (T := E.t) (p := E.p) hg h1 (l.drop 1) ((B i0 hd s).1, (B i0 hd s).1, (B i0 hd s).2) (by have := hgood.2.1.flt.length_le; simp only []; omega) hgood.1 hgood.2.2 hgood.2.2
  simp only [] at hgt hlg hfl
  have hcal := fun m w hm => hB i0 hd s m w him.2 hm hs h1 h2 (by have := hgt.2.1.log.length_le; omega) (by have := hgt.2.1.flt.length_le; omega)
  obtain ⟨R, hRR⟩ : ∃ R, R = tryGo E.t E.p B hd (l.drop 1) ((B i0 hd s).1, (B i0 hd s).1, (B i0 hd s).2) := ⟨_, rfl⟩
  rw [← hRR] at hlg hfl ⊢
  obtain ⟨x, hx⟩ : ∃ x, x = B i0 hd s := ⟨_, rfl⟩
  rw [← hx] at hcal hRR hgood
  obtain ⟨⟨e0, v0⟩, s0⟩ := x
  simp only [] at hRR
  have HRR := Lib.hid hRR
  have HC := Lib.hid hcal
  have HGD := Lib.hid hgood
  have HGR := Lib.hid hg
  have HB := Lib.hid hB
  have HL := Lib.hid hl
  have HMEM := Lib.hid hm
  have HN := Lib.hid hn
  have H := Lib.hid h
  have HE := Lib.hid hE
  have hgl : g < w.heap.size := h.blk.lt
  have hcc : 1 < cl' := by omega
  have hd0 : hd < s0.flt.length := by have := hgood.2.1.flt.length_le; simp only [] at this; omega
  have gl1 : w.cell? al = some (.int .i64 i0) := by have := gl0; simpa [Addr.add] using this
  have q0 := cell_alloc' (.cells #[.int .i64 0, .int .i64 0] 56) gl1
  clear hx hcal hRR hgood hg hB hl hm hn h hE hgt hR gl0 gl1 him hi0 hs
  go_enter Try.func54, Try.ntmps54
  go_wp2_with (go_at_call 86; (refine (HC.out ⟨g, lv, fv⟩ (w.alloc (.cells #[.int .i64 0, .int .i64 0] 56)) (H.out.alloc _)).mono ?_; rintro e w1 ⟨⟨g1, lv1, fv1⟩, rfl, hm1, hs1, hg1⟩; simp only [] at hg1; replace hg1 := hg1.symm; subst hg1; have HM1 := Lib.hid hm1; have HS1 := Lib.hid (((Step.refl w _).alloc (.cells #[.int .i64 0, .int .i64 0] 56)).trans hs1); have HB1 := Lib.hid (hs1.blkOf (H.out.alloc _) (Blk.new w 56 #[.int .i64 0, .int .i64 0]) (by decide) (by decide) (by decide)); clear hm1 hs1))
  have hnw : w.heap.size < w1.heap.size := HB1.out.lt
  have HM2 : Hid (Mach E ((w1.alloc (.cells #[.int .i64 e0, .int .i64 v0] 56)).alloc (.cells #[.int .i64 e0, .int .i64 v0] 56)) ⟨g, lv1, fv1⟩ s0) := Lib.hid ((HM1.out.alloc _).alloc _)
  have HS2 : Hid (Step w ⟨g, lv, fv⟩ ((w1.alloc (.cells #[.int .i64 e0, .int .i64 v0] 56)).alloc (.cells #[.int .i64 e0, .int .i64 v0] 56)) ⟨g, lv1, fv1⟩) := Lib.hid ((HS1.out.alloc _).alloc _)
  have HB2 : Hid (Blk ((w1.alloc (.cells #[.int .i64 e0, .int .i64 v0] 56)).alloc (.cells #[.int .i64 e0, .int .i64 v0] 56)) w.heap.size 56 #[.int .i64 0, .int .i64 0]) := Lib.hid ((HB1.out.alloc _).alloc _)
  have HE2 : Hid (Blk ((w1.alloc (.cells #[.int .i64 e0, .int .i64 v0] 56)).alloc (.cells #[.int .i64 e0, .int .i64 v0] 56)) w1.heap.size 56 #[.int .i64 e0, .int .i64 v0]) := Lib.hid ((Blk.new w1 _ _).alloc _)
  have HF2 : Hid (Blk ((w1.alloc (.cells #[.int .i64 e0, .int .i64 v0] 56)).alloc (.cells #[.int .i64 e0, .int .i64 v0] 56)) (w1.heap.size + 1) 56 #[.int .i64 e0, .int .i64 v0]) := Lib.hid (by have := Blk.new (w1.alloc (.cells #[.int .i64 e0, .int .i64 v0] 56)) 56 #[.int .i64 e0, .int .i64 v0]; rw [show (w1.alloc (.cells #[.int .i64 e0, .int .i64 v0] 56)).heap.size = w1.heap.size + 1 from by simp] at this; exact this)
  clear HM1 HS1 HB1 q0
  generalize w1.heap.size = n1 at HE2 HF2 hnw ⊢
  go_loopw [24] (fun v w' => ∃ (j : Nat) (e st : En) (s' : St) (lv' fv' : Value), j ≤ l.length - 1 ∧ v = .int .i64 j ∧ Hid (tryGo E.t E.p B hd (l.drop (j + 1)) (e, st, s') = R) ∧ Hid (SOk E.t.length s') ∧ Hid (EnOk s' e) ∧ Hid (EnOk s' st) ∧ hd < s'.flt.length ∧ Hid (Mach E w' ⟨g, lv', fv'⟩ s') ∧ Hid (Step w ⟨g, lv, fv⟩ w' ⟨g, lv', fv'⟩) ∧
      Hid (Blk w' w.heap.size 56 #[.int .i64 0, .int .i64 0]) ∧ Hid (Blk w' n1 56 #[.int .i64 e.e, .int .i64 e.v]) ∧ Hid (Blk w' (n1 + 1) 56 #[.int .i64 st.e, .int .i64 st.v])) (fun v _ => (l.length - 1) - (intOf v).toNat)
  case atStart => exact ⟨0, ⟨e0, v0⟩, ⟨e0, v0⟩, s0, lv1, fv1, by omega, rfl, Lib.hid HRR.out.symm, Lib.hid HGD.out.1, Lib.hid HGD.out.2.2, Lib.hid HGD.out.2.2, hd0, HM2, HS2, HB2, HE2, HF2⟩
  case round =>
    obtain ⟨j, ⟨ee, ev⟩, ⟨te, tv⟩, s3, lv3, fv3, hj, rfl, hb, HSO, HEO, HTO, hd3, HM3, HS3, HB3, HE3, HT3⟩ := hrel
    clear HM2 HS2 HB2 HE2 HF2
    simp only [] at HE3 HT3
    have r0 := HB3.out.lt
    have r1 := HE3.out.lt
    have r2 := HT3.out.lt
    by_cases hlt : j < l.length - 1
    · obtain ⟨_, ea, -, ga⟩ := (HS3.out.rd HL.out HN.out).nat (show j + 1 < l.length by omega)
      cases ea
      obtain ⟨k, hk⟩ : ∃ k, k = l.getD (j + 1) 0 := ⟨_, rfl⟩
      rw [← hk] at ga
      have hmk := HMEM.out k (by rw [hk]; simp [List.getElem?_eq_getElem (show j + 1 < l.length by omega)])
      have g1 : wr.cell? ⟨al.block, al.off + 1 + j, none⟩ = some (.int .i64 k) := by
        rw [show (⟨al.block, al.off + 1 + j, none⟩ : Addr) = al.add (j + 1) from by simp [Addr.add]; omega]; exact ga
      have hdrop : l.drop (j + 1) = k :: l.drop (j + 2) := by
        rw [hk, List.drop_eq_getElem_cons (show j + 1 < l.length by omega)]; simp [List.getElem?_eq_getElem (show j + 1 < l.length by omega)]
      rw [hdrop, tryGo_cons] at hb
      obtain ⟨hg0, ct, cp, -, cf, -, -, -⟩ := HM3.out.face
      obtain ⟨ad, hA, hab, l0, l1, l2, l3⟩ := HM3.out.p.line hmk.1
      rw [hA] at cp
      have hgp := good_part (T := E.t) (p := E.p) HGR.out (x := (⟨ee, ev⟩, ⟨te, tv⟩, s3)) k h1 hd3 HSO.out HEO.out HTO.out
      have hgt := good_tryGo (T := E.t) (p := E.p) HGR.out h1 (l.drop (j + 2)) (partR E.t E.p B hd (⟨ee, ev⟩, ⟨te, tv⟩, s3) k) (by have := hgp.2.1.flt.length_le; simp only [] at this; omega) hgp.1 hgp.2.2.1 hgp.2.2.2
      rw [hb.out] at hgt
      have hpl : (partR E.t E.p B hd (⟨ee, ev⟩, ⟨te, tv⟩, s3) k).2.2.log.length ≤ 1099511627776 := by have := hgt.2.1.log.length_le; omega
      have hpf : (partR E.t E.p B hd (⟨ee, ev⟩, ⟨te, tv⟩, s3) k).2.2.flt.length ≤ 1099511627776 := by have := hgt.2.1.flt.length_le; omega
      obtain ⟨x, hx⟩ : ∃ x, x = ln E.p k := ⟨_, rfl⟩
      rw [← hx] at l0 l1 l2 l3
      obtain ⟨d, kk, a, b⟩ := x
      simp only [] at l0 l1 l2 l3
      have HX := Lib.hid hx
      have HGP := Lib.hid hgp
      have HPL := Lib.hid hpl
      have HPF := Lib.hid hpf
      have HMK := Lib.hid hmk
      have HAA := Lib.hid hA
      have hkp := hmk.1
      obtain ⟨n, hnn⟩ : ∃ n, n = E.p.length := ⟨_, rfl⟩
      rw [← hnn] at cp hkp
      clear hk ga hdrop hgp hgt hpl hpf hx hmk hA hnn
      by_cases k8 : kk = 8
      · subst k8
        by_cases ht : te = 2
        · subst ht
          have hv := HTO.out rfl
          simp only [] at hv
          obtain ⟨f, rfl⟩ : ∃ f : Nat, tv = f := ⟨tv.toNat, by omega⟩
          have hf : f < s3.flt.length := by omega
          obtain ⟨fa, fc, hfv⟩ : ∃ fa fc, fv3 = .slice (some fa) s3.flt.length fc ∧ Hid (Rd encF 5 wr (some fa) s3.flt) := by
            obtain ⟨A', c', e, hr, -, -⟩ := HM3.out.flt.form encF_len
            obtain ⟨fa, e2, -⟩ := hr.flt hf
            subst e2
            exact ⟨fa, c', e, Lib.hid hr⟩
          obtain ⟨rfl, HFR⟩ := hfv
          obtain ⟨_, e2, hfb, c0, -, -, -, -⟩ := HFR.out.flt hf
          cases e2
          have hcls := HSO.out.cls f hf
          have hclr : 0 ≤ (fl s3.flt f).cls ∧ (fl s3.flt f).cls < E.t.length := by unfold hasC within at hcls; simp at hcls; omega
          obtain ⟨cc, hcc2⟩ : ∃ cc, cc = (fl s3.flt f).cls := ⟨_, rfl⟩
          rw [← hcc2] at c0 hclr
          have HCC := Lib.hid hcc2
          have b0 : ∀ y : Ext (wr.alloc (.cells #[.int .i64 d, .int .i64 8, .int .i64 a, .int .i64 b] 37)), y.1.cell? ⟨n1 + 1, 0, none⟩ = some (.int .i64 2) := fun y => ((HT3.out.alloc _).ext y).cell 0
          have b1 : ∀ y : Ext (wr.alloc (.cells #[.int .i64 d, .int .i64 8, .int .i64 a, .int .i64 b] 37)), y.1.cell? ⟨n1 + 1, 1, none⟩ = some (.int .i64 f) := fun y => ((HT3.out.alloc _).ext y).cell 1
          have b2 : ∀ y : Ext (wr.alloc (.cells #[.int .i64 d, .int .i64 8, .int .i64 a, .int .i64 b] 37)), y.1.cell? ⟨g, 0, none⟩ = some (.slice E.At E.t.length E.nt) := fun y => y.cell (cell_alloc' _ ct)
          have b3 : ∀ y : Ext (wr.alloc (.cells #[.int .i64 d, .int .i64 8, .int .i64 a, .int .i64 b] 37)), y.1.cell? ⟨g, 3, none⟩ = some (.slice (some fa) s3.flt.length fc) := fun y => y.cell (cell_alloc' _ cf)
          have b4 : ∀ y : Ext (wr.alloc (.cells #[.int .i64 d, .int .i64 8, .int .i64 a, .int .i64 b] 37)), y.1.cell? (fa.add (f * 5)) = some (.int .i64 cc) := fun y => y.cell (cell_alloc' _ c0)
          have b5 : ∀ y : Ext (wr.alloc (.cells #[.int .i64 d, .int .i64 8, .int .i64 a, .int .i64 b] 37)), y.1.cell? ⟨wr.heap.size, 2, none⟩ = some (.int .i64 a) := fun y => y.cell (by simp)
          have HTR : Hid (∀ y : Ext (wr.alloc (.cells #[.int .i64 d, .int .i64 8, .int .i64 a, .int .i64 b] 37)), Rd encC 2 y.1 E.At E.t) := Lib.hid fun y => (HM3.out.t.alloc _).ext y
          obtain ⟨tt, htt⟩ : ∃ tt, tt = isc E.t cc a := ⟨_, rfl⟩
          have HTT := Lib.hid htt
          clear hcls hcc2 htt c0
          cases tt with
          | false =>
            go_wp2
            refine wp_region_ext_lit (by kernel_rfl) (by kernel_rfl) ?_
            (repeat (go_big_quiet_step ((go_at_call 87; exact calls_ext (calls_val (isc_calls E.t E.At E.nt cc a _ HE.out.vt (HTR.out _) HE.out.tl hclr.2 (by omega)) (congrArg Value.bool HTT.out.symm))))))
            refine wpQuiet_nil ?_
            rintro _ ⟨y, rfl⟩
            go_wp2
            go_roundw
            case rel => exact ⟨j + 1, ⟨ee, ev⟩, ⟨2, f⟩, s3, lv3, _, by omega, by go_num, Lib.hid (by rw [← hb.out, partR_8n HX.out.symm (fun h => by have h2 := h.2; simp only [Int.toNat_natCast] at h2; rw [← HCC.out, ← HTT.out] at h2; cases h2)]), HSO, HEO, HTO, hd3, Lib.hid ((HM3.out.alloc _).ext y), Lib.hid ((HS3.out.alloc _).trans (Step.ext _ y)), Lib.hid ((HB3.out.alloc _).ext y), Lib.hid ((HE3.out.alloc _).ext y), Lib.hid ((HT3.out.alloc _).ext y)⟩
            case measure => simp [intOf]; omega
          | true =>
            go_wp2
            refine wp_region_ext_lit (by kernel_rfl) (by kernel_rfl) ?_
            (repeat (go_big_quiet_step ((go_at_call 87; exact calls_ext (calls_val (isc_calls E.t E.At E.nt cc a _ HE.out.vt (HTR.out _) HE.out.tl hclr.2 (by omega)) (congrArg Value.bool HTT.out.symm))))))
            refine wpQuiet_nil ?_
            rintro _ ⟨y, rfl⟩
            have hB8 := HB.out k f s3 ⟨g, lv3, .slice (some fa) s3.flt.length fc⟩ y.1 HMK.out.2 ((HM3.out.alloc _).ext y) HSO.out (by omega) hv.2
              (by have := HPL.out; rw [partR_8y HX.out.symm rfl (by simp only [Int.toNat_natCast]; rw [← HCC.out, ← HTT.out])] at this; exact this) (by have := HPF.out; rw [partR_8y HX.out.symm rfl (by simp only [Int.toNat_natCast]; rw [← HCC.out, ← HTT.out])] at this; exact this)
            have HP8 : Hid (partR E.t E.p B hd (⟨ee, ev⟩, ⟨2, f⟩, s3) k = ((B k f s3).1, ⟨-1, 0⟩, (B k f s3).2)) := Lib.hid (partR_8y HX.out.symm rfl (by simp only [Int.toNat_natCast]; rw [← HCC.out, ← HTT.out]))
            have hg8 := HGR.out k f s3 HSO.out (by omega) hv.2
            obtain ⟨x, hx⟩ : ∃ x, x = B k f s3 := ⟨_, rfl⟩
            rw [← hx] at hB8 HP8 hg8
            obtain ⟨⟨xe, xv⟩, s5⟩ := x
            have HB8 := Lib.hid hB8
            have HG8 := Lib.hid hg8
            have hd5 : hd < s5.flt.length := by have := hg8.2.1.flt.length_le; simp only [] at this; omega
            have HY : Hid (Step w ⟨g, lv, fv⟩ y.1 ⟨g, lv3, .slice (some fa) s3.flt.length fc⟩) := Lib.hid ((HS3.out.alloc _).trans (Step.ext _ y))
            have HYM : Hid (Mach E y.1 ⟨g, lv3, .slice (some fa) s3.flt.length fc⟩ s3) := Lib.hid ((HM3.out.alloc _).ext y)
            have HYB : Hid (Blk y.1 w.heap.size 56 #[.int .i64 0, .int .i64 0]) := Lib.hid ((HB3.out.alloc _).ext y)
            have HYE : Hid (Blk y.1 n1 56 #[.int .i64 ee, .int .i64 ev]) := Lib.hid ((HE3.out.alloc _).ext y)
            have HYT : Hid (Blk y.1 (n1 + 1) 56 #[.int .i64 2, .int .i64 f]) := Lib.hid ((HT3.out.alloc _).ext y)
            have y0 : y.1.cell? ⟨n1 + 1, 1, none⟩ = some (.int .i64 f) := b1 y
            have y1 : n1 + 1 < y.1.heap.size := HYT.out.lt
            clear hB8 hx hg8 b0 b1 b2 b3 b4 b5
            have hbn : E.base ≤ n1 := by have := H.out.ge; simp only [] at this; omega
            go_wp2_with (go_at_call 86; refine HB8.out.mono ?_; rintro e w4 ⟨⟨g4, lv4, fv4⟩, rfl, hm4, hs4, hg4⟩; simp only [] at hg4; replace hg4 := hg4.symm; subst hg4; have HM4 := Lib.hid hm4; have HS4 := Lib.hid (HY.out.trans hs4); have HB4 := Lib.hid (hs4.blkOf HYM.out HYB.out (by decide) (by decide) (by decide)); have HE4 := Lib.hid (hs4.blkOf HYM.out HYE.out (by decide) (by decide) (by decide)); have HT4 := Lib.hid (hs4.blkOf HYM.out HYT.out (by decide) (by decide) (by decide)); have z0 := HE4.out.cell 0; have z1 := HE4.out.cell 1; have z2 := HE4.out.frozen 0; have z3 := HE4.out.frozen 1; have z4 := HT4.out.cell 0; have z5 := HT4.out.cell 1; have z6 := HT4.out.frozen 0; have z7 := HT4.out.frozen 1; have z8 := HT4.out.lt; have z9 := HE4.out.lt; clear hm4 hs4)
            go_roundw
            case rel => exact ⟨j + 1, ⟨xe, xv⟩, ⟨-1, 0⟩, s5, lv4, fv4, by omega, by go_num, Lib.hid (by rw [← hb.out, HP8.out]), Lib.hid HG8.out.1, Lib.hid HG8.out.2.2, Lib.hid (fun h => by cases h), hd5, Lib.hid ((HM4.out.set2 HE4.out hbn _ _).set2 (HT4.out.far2 (by omega) _ _) (by omega) _ _), Lib.hid ((HS4.out.set2 (by omega) _ _).set2 (by omega) _ _), Lib.hid ((HB4.out.far2 (by omega) _ _).far2 (by omega) _ _), Lib.hid ((HE4.out.set2 _ _).far2 (by omega) _ _), Lib.hid ((HT4.out.far2 (by omega) _ _).set2 _ _)⟩
            case measure => simp [intOf]; omega
        · have ht' : (te == 2) = false := beq_eq_false_iff_ne.mpr ht
          have b0 : ∀ y : Ext (wr.alloc (.cells #[.int .i64 d, .int .i64 8, .int .i64 a, .int .i64 b] 37)), y.1.cell? ⟨n1 + 1, 0, none⟩ = some (.int .i64 te) := fun y => ((HT3.out.alloc _).ext y).cell 0
          go_wp2
          refine wp_region_ext_lit (by kernel_rfl) (by kernel_rfl) ?_
          repeat (go_big_quiet_step (fail))
          refine wpQuiet_nil ?_
          rintro _ ⟨y, rfl⟩
          go_wp2
          go_roundw
          case rel => exact ⟨j + 1, ⟨ee, ev⟩, ⟨te, tv⟩, s3, lv3, fv3, by omega, by go_num, Lib.hid (by rw [← hb.out, partR_8n HX.out.symm (fun h => ht h.1)]), HSO, HEO, HTO, hd3, Lib.hid ((HM3.out.alloc _).ext y), Lib.hid ((HS3.out.alloc _).trans (Step.ext _ y)), Lib.hid ((HB3.out.alloc _).ext y), Lib.hid ((HE3.out.alloc _).ext y), Lib.hid ((HT3.out.alloc _).ext y)⟩
          case measure => simp [intOf]; omega
      by_cases k9 : kk = 9
      · subst k9
        by_cases ht : te = 0
        · subst ht
          have HP8 : Hid (partR E.t E.p B hd (⟨ee, ev⟩, ⟨0, tv⟩, s3) k = ((B k hd s3).1, ⟨0, tv⟩, (B k hd s3).2)) := Lib.hid (partR_9y HX.out.symm rfl)
          have hB8 := HB.out k hd s3 ⟨g, lv3, fv3⟩ (wr.alloc (.cells #[.int .i64 d, .int .i64 9, .int .i64 a, .int .i64 b] 37)) HMK.out.2 (HM3.out.alloc _) HSO.out (h1) (hd3) (by have := HPL.out; rw [HP8.out] at this; exact this) (by have := HPF.out; rw [HP8.out] at this; exact this)
          have hg8 := HGR.out k hd s3 HSO.out (h1) (hd3)
          obtain ⟨x, hx⟩ : ∃ x, x = B k hd s3 := ⟨_, rfl⟩
          rw [← hx] at hB8 HP8 hg8
          obtain ⟨⟨xe, xv⟩, s5⟩ := x
          have HB8 := Lib.hid hB8
          have HG8 := Lib.hid hg8
          have hd5 : hd < s5.flt.length := by have := hg8.2.1.flt.length_le; simp only [] at this; omega
          have HY : Hid (Step w ⟨g, lv, fv⟩ (wr.alloc (.cells #[.int .i64 d, .int .i64 9, .int .i64 a, .int .i64 b] 37)) ⟨g, lv3, fv3⟩) := Lib.hid (HS3.out.alloc _)
          have HYM : Hid (Mach E (wr.alloc (.cells #[.int .i64 d, .int .i64 9, .int .i64 a, .int .i64 b] 37)) ⟨g, lv3, fv3⟩ s3) := Lib.hid (HM3.out.alloc _)
          have HYB : Hid (Blk (wr.alloc (.cells #[.int .i64 d, .int .i64 9, .int .i64 a, .int .i64 b] 37)) w.heap.size 56 #[.int .i64 0, .int .i64 0]) := Lib.hid (HB3.out.alloc _)
          have HYE : Hid (Blk (wr.alloc (.cells #[.int .i64 d, .int .i64 9, .int .i64 a, .int .i64 b] 37)) n1 56 #[.int .i64 ee, .int .i64 ev]) := Lib.hid (HE3.out.alloc _)
          have HYT : Hid (Blk (wr.alloc (.cells #[.int .i64 d, .int .i64 9, .int .i64 a, .int .i64 b] 37)) (n1 + 1) 56 #[.int .i64 0, .int .i64 tv]) := Lib.hid (HT3.out.alloc _)
          have y0 := HYT.out.cell 0
          have y1 := HYE.out.cell 0
          have y2 := HYE.out.cell 1
          clear hB8 hx hg8
          have hbn : E.base ≤ n1 := by have := H.out.ge; simp only [] at this; omega
          go_wp2_with (go_at_call 86; refine HB8.out.mono ?_; rintro e w4 ⟨⟨g4, lv4, fv4⟩, rfl, hm4, hs4, hg4⟩; simp only [] at hg4; replace hg4 := hg4.symm; subst hg4; have HM4 := Lib.hid hm4; have HS4 := Lib.hid (HY.out.trans hs4); have HB4 := Lib.hid (hs4.blkOf HYM.out HYB.out (by decide) (by decide) (by decide)); have HE4 := Lib.hid (hs4.blkOf HYM.out HYE.out (by decide) (by decide) (by decide)); have HT4 := Lib.hid (hs4.blkOf HYM.out HYT.out (by decide) (by decide) (by decide)); have z0 := HE4.out.cell 0; have z1 := HE4.out.cell 1; have z2 := HE4.out.frozen 0; have z3 := HE4.out.frozen 1; have z4 := HT4.out.cell 0; have z5 := HT4.out.cell 1; have z6 := HT4.out.frozen 0; have z7 := HT4.out.frozen 1; have z8 := HT4.out.lt; have z9 := HE4.out.lt; clear hm4 hs4)
          go_roundw
          case rel => exact ⟨j + 1, ⟨xe, xv⟩, ⟨0, tv⟩, s5, lv4, fv4, by omega, by go_num, Lib.hid (by rw [← hb.out, HP8.out]), Lib.hid HG8.out.1, Lib.hid HG8.out.2.2, Lib.hid (fun h => by cases h), hd5, Lib.hid (HM4.out.set2 HE4.out hbn _ _), Lib.hid (HS4.out.set2 (by omega) _ _), Lib.hid (HB4.out.far2 (by omega) _ _), Lib.hid (HE4.out.set2 _ _), Lib.hid (HT4.out.far2 (by omega) _ _)⟩
          case measure => simp [intOf]; omega
        · have ht' : (te == 0) = false := beq_eq_false_iff_ne.mpr ht
          have y0 : (wr.alloc (.cells #[.int .i64 d, .int .i64 9, .int .i64 a, .int .i64 b] 37)).cell? ⟨n1 + 1, 0, none⟩ = some (.int .i64 te) := (HT3.out.alloc _).cell 0
          go_wp2
          go_roundw
          case rel => exact ⟨j + 1, ⟨ee, ev⟩, ⟨te, tv⟩, s3, lv3, fv3, by omega, by go_num, Lib.hid (by rw [← hb.out, partR_9n HX.out.symm ht]), HSO, HEO, HTO, hd3, Lib.hid (HM3.out.alloc _), Lib.hid (HS3.out.alloc _), Lib.hid (HB3.out.alloc _), Lib.hid (HE3.out.alloc _), Lib.hid (HT3.out.alloc _)⟩
          case measure => simp [intOf]; omega
      have k8' : (kk == 8) = false := beq_eq_false_iff_ne.mpr k8
      have k9' : (kk == 9) = false := beq_eq_false_iff_ne.mpr k9
      by_cases k10 : kk = 10
      · subst k10
        by_cases he2 : ee = 2
        · subst he2
          have hev := HEO.out rfl
          simp only [] at hev
          have HP8 : Hid (partR E.t E.p B hd (⟨2, ev⟩, ⟨te, tv⟩, s3) k = (if (B k ev s3).1.e ≠ 0 then (B k ev s3).1 else ⟨2, ev⟩, ⟨te, tv⟩, (B k ev s3).2)) := Lib.hid (partR_10 HX.out.symm ev rfl)
          have hB8 := HB.out k ev s3 ⟨g, lv3, fv3⟩ (wr.alloc (.cells #[.int .i64 d, .int .i64 10, .int .i64 a, .int .i64 b] 37)) HMK.out.2 (HM3.out.alloc _) HSO.out (by omega) (hev.2) (by have := HPL.out; rw [HP8.out] at this; exact this) (by have := HPF.out; rw [HP8.out] at this; exact this)
          have hg8 := HGR.out k ev s3 HSO.out (by omega) (hev.2)
          obtain ⟨x, hx⟩ : ∃ x, x = B k ev s3 := ⟨_, rfl⟩
          rw [← hx] at hB8 HP8 hg8
          obtain ⟨⟨xe, xv⟩, s5⟩ := x
          have HB8 := Lib.hid hB8
          have HG8 := Lib.hid hg8
          have hd5 : hd < s5.flt.length := by have := hg8.2.1.flt.length_le; simp only [] at this; omega
          have HY : Hid (Step w ⟨g, lv, fv⟩ (wr.alloc (.cells #[.int .i64 d, .int .i64 10, .int .i64 a, .int .i64 b] 37)) ⟨g, lv3, fv3⟩) := Lib.hid (HS3.out.alloc _)
          have HYM : Hid (Mach E (wr.alloc (.cells #[.int .i64 d, .int .i64 10, .int .i64 a, .int .i64 b] 37)) ⟨g, lv3, fv3⟩ s3) := Lib.hid (HM3.out.alloc _)
          have HYB : Hid (Blk (wr.alloc (.cells #[.int .i64 d, .int .i64 10, .int .i64 a, .int .i64 b] 37)) w.heap.size 56 #[.int .i64 0, .int .i64 0]) := Lib.hid (HB3.out.alloc _)
          have HYE : Hid (Blk (wr.alloc (.cells #[.int .i64 d, .int .i64 10, .int .i64 a, .int .i64 b] 37)) n1 56 #[.int .i64 2, .int .i64 ev]) := Lib.hid (HE3.out.alloc _)
          have HYT : Hid (Blk (wr.alloc (.cells #[.int .i64 d, .int .i64 10, .int .i64 a, .int .i64 b] 37)) (n1 + 1) 56 #[.int .i64 te, .int .i64 tv]) := Lib.hid (HT3.out.alloc _)
          have y0 := HYT.out.cell 0
          have y1 := HYE.out.cell 0
          have y2 := HYE.out.cell 1
          clear hB8 hx hg8
          have hbn : E.base ≤ n1 := by have := H.out.ge; simp only [] at this; omega
          by_cases hxe : xe = 0
          · subst hxe
            go_wp2_with (go_at_call 86; refine HB8.out.mono ?_; rintro e w4 ⟨⟨g4, lv4, fv4⟩, rfl, hm4, hs4, hg4⟩; simp only [] at hg4; replace hg4 := hg4.symm; subst hg4; have HM4 := Lib.hid hm4; have HS4 := Lib.hid (HY.out.trans hs4); have HB4 := Lib.hid (hs4.blkOf HYM.out HYB.out (by decide) (by decide) (by decide)); have HE4 := Lib.hid (hs4.blkOf HYM.out HYE.out (by decide) (by decide) (by decide)); have HT4 := Lib.hid (hs4.blkOf HYM.out HYT.out (by decide) (by decide) (by decide)); have z0 := HE4.out.cell 0; have z1 := HE4.out.cell 1; have z2 := HE4.out.frozen 0; have z3 := HE4.out.frozen 1; have z4 := HT4.out.cell 0; have z5 := HT4.out.cell 1; have z6 := HT4.out.frozen 0; have z7 := HT4.out.frozen 1; have z8 := HT4.out.lt; have z9 := HE4.out.lt; clear hm4 hs4)
            go_roundw
            case rel => exact ⟨j + 1, ⟨2, ev⟩, ⟨te, tv⟩, s5, lv4, fv4, by omega, by go_num, Lib.hid (by rw [← hb.out, HP8.out]; rfl), Lib.hid HG8.out.1, Lib.hid (HEO.out.grow HG8.out.2.1), Lib.hid (HTO.out.grow HG8.out.2.1), hd5, Lib.hid (HM4.out.alloc _), Lib.hid (HS4.out.alloc _), Lib.hid (HB4.out.alloc _), Lib.hid (HE4.out.alloc _), Lib.hid (HT4.out.alloc _)⟩
            case measure => simp [intOf]; omega
          · have hxe' : (xe != 0) = true := bne_iff_ne.mpr hxe
            go_wp2_with (go_at_call 86; refine HB8.out.mono ?_; rintro e w4 ⟨⟨g4, lv4, fv4⟩, rfl, hm4, hs4, hg4⟩; simp only [] at hg4; replace hg4 := hg4.symm; subst hg4; have HM4 := Lib.hid hm4; have HS4 := Lib.hid (HY.out.trans hs4); have HB4 := Lib.hid (hs4.blkOf HYM.out HYB.out (by decide) (by decide) (by decide)); have HE4 := Lib.hid (hs4.blkOf HYM.out HYE.out (by decide) (by decide) (by decide)); have HT4 := Lib.hid (hs4.blkOf HYM.out HYT.out (by decide) (by decide) (by decide)); have z0 := HE4.out.cell 0; have z1 := HE4.out.cell 1; have z2 := HE4.out.frozen 0; have z3 := HE4.out.frozen 1; have z4 := HT4.out.cell 0; have z5 := HT4.out.cell 1; have z6 := HT4.out.frozen 0; have z7 := HT4.out.frozen 1; have z8 := HT4.out.lt; have z9 := HE4.out.lt; clear hm4 hs4)
            go_roundw
            case rel => exact ⟨j + 1, ⟨xe, xv⟩, ⟨te, tv⟩, s5, lv4, fv4, by omega, by go_num, Lib.hid (by rw [← hb.out, HP8.out, if_pos hxe]), Lib.hid HG8.out.1, Lib.hid HG8.out.2.2, Lib.hid (HTO.out.grow HG8.out.2.1), hd5, Lib.hid ((HM4.out.set2 HE4.out hbn _ _).alloc _), Lib.hid ((HS4.out.set2 (by omega) _ _).alloc _), Lib.hid ((HB4.out.far2 (by omega) _ _).alloc _), Lib.hid ((HE4.out.set2 _ _).alloc _), Lib.hid ((HT4.out.far2 (by omega) _ _).alloc _)⟩
            case measure => simp [intOf]; omega
        · have he2' : (ee == 2) = false := beq_eq_false_iff_ne.mpr he2
          have HP8 : Hid (partR E.t E.p B hd (⟨ee, ev⟩, ⟨te, tv⟩, s3) k = (if (B k hd s3).1.e ≠ 0 then (B k hd s3).1 else ⟨ee, ev⟩, ⟨te, tv⟩, (B k hd s3).2)) := Lib.hid (partR_10 HX.out.symm hd (if_neg he2).symm)
          have hB8 := HB.out k hd s3 ⟨g, lv3, fv3⟩ (wr.alloc (.cells #[.int .i64 d, .int .i64 10, .int .i64 a, .int .i64 b] 37)) HMK.out.2 (HM3.out.alloc _) HSO.out (h1) (hd3) (by have := HPL.out; rw [HP8.out] at this; exact this) (by have := HPF.out; rw [HP8.out] at this; exact this)
          have hg8 := HGR.out k hd s3 HSO.out (h1) (hd3)
          obtain ⟨x, hx⟩ : ∃ x, x = B k hd s3 := ⟨_, rfl⟩
          rw [← hx] at hB8 HP8 hg8
          obtain ⟨⟨xe, xv⟩, s5⟩ := x
          have HB8 := Lib.hid hB8
          have HG8 := Lib.hid hg8
          have hd5 : hd < s5.flt.length := by have := hg8.2.1.flt.length_le; simp only [] at this; omega
          have HY : Hid (Step w ⟨g, lv, fv⟩ (wr.alloc (.cells #[.int .i64 d, .int .i64 10, .int .i64 a, .int .i64 b] 37)) ⟨g, lv3, fv3⟩) := Lib.hid (HS3.out.alloc _)
          have HYM : Hid (Mach E (wr.alloc (.cells #[.int .i64 d, .int .i64 10, .int .i64 a, .int .i64 b] 37)) ⟨g, lv3, fv3⟩ s3) := Lib.hid (HM3.out.alloc _)
          have HYB : Hid (Blk (wr.alloc (.cells #[.int .i64 d, .int .i64 10, .int .i64 a, .int .i64 b] 37)) w.heap.size 56 #[.int .i64 0, .int .i64 0]) := Lib.hid (HB3.out.alloc _)
          have HYE : Hid (Blk (wr.alloc (.cells #[.int .i64 d, .int .i64 10, .int .i64 a, .int .i64 b] 37)) n1 56 #[.int .i64 ee, .int .i64 ev]) := Lib.hid (HE3.out.alloc _)
          have HYT : Hid (Blk (wr.alloc (.cells #[.int .i64 d, .int .i64 10, .int .i64 a, .int .i64 b] 37)) (n1 + 1) 56 #[.int .i64 te, .int .i64 tv]) := Lib.hid (HT3.out.alloc _)
          have y0 := HYT.out.cell 0
          have y1 := HYE.out.cell 0
          have y2 := HYE.out.cell 1
          clear hB8 hx hg8
          have hbn : E.base ≤ n1 := by have := H.out.ge; simp only [] at this; omega
          by_cases hxe : xe = 0
          · subst hxe
            go_wp2_with (go_at_call 86; refine HB8.out.mono ?_; rintro e w4 ⟨⟨g4, lv4, fv4⟩, rfl, hm4, hs4, hg4⟩; simp only [] at hg4; replace hg4 := hg4.symm; subst hg4; have HM4 := Lib.hid hm4; have HS4 := Lib.hid (HY.out.trans hs4); have HB4 := Lib.hid (hs4.blkOf HYM.out HYB.out (by decide) (by decide) (by decide)); have HE4 := Lib.hid (hs4.blkOf HYM.out HYE.out (by decide) (by decide) (by decide)); have HT4 := Lib.hid (hs4.blkOf HYM.out HYT.out (by decide) (by decide) (by decide)); have z0 := HE4.out.cell 0; have z1 := HE4.out.cell 1; have z2 := HE4.out.frozen 0; have z3 := HE4.out.frozen 1; have z4 := HT4.out.cell 0; have z5 := HT4.out.cell 1; have z6 := HT4.out.frozen 0; have z7 := HT4.out.frozen 1; have z8 := HT4.out.lt; have z9 := HE4.out.lt; clear hm4 hs4)
            go_roundw
            case rel => exact ⟨j + 1, ⟨ee, ev⟩, ⟨te, tv⟩, s5, lv4, fv4, by omega, by go_num, Lib.hid (by rw [← hb.out, HP8.out]; rfl), Lib.hid HG8.out.1, Lib.hid (HEO.out.grow HG8.out.2.1), Lib.hid (HTO.out.grow HG8.out.2.1), hd5, Lib.hid (HM4.out.alloc _), Lib.hid (HS4.out.alloc _), Lib.hid (HB4.out.alloc _), Lib.hid (HE4.out.alloc _), Lib.hid (HT4.out.alloc _)⟩
            case measure => simp [intOf]; omega
          · have hxe' : (xe != 0) = true := bne_iff_ne.mpr hxe
            go_wp2_with (go_at_call 86; refine HB8.out.mono ?_; rintro e w4 ⟨⟨g4, lv4, fv4⟩, rfl, hm4, hs4, hg4⟩; simp only [] at hg4; replace hg4 := hg4.symm; subst hg4; have HM4 := Lib.hid hm4; have HS4 := Lib.hid (HY.out.trans hs4); have HB4 := Lib.hid (hs4.blkOf HYM.out HYB.out (by decide) (by decide) (by decide)); have HE4 := Lib.hid (hs4.blkOf HYM.out HYE.out (by decide) (by decide) (by decide)); have HT4 := Lib.hid (hs4.blkOf HYM.out HYT.out (by decide) (by decide) (by decide)); have z0 := HE4.out.cell 0; have z1 := HE4.out.cell 1; have z2 := HE4.out.frozen 0; have z3 := HE4.out.frozen 1; have z4 := HT4.out.cell 0; have z5 := HT4.out.cell 1; have z6 := HT4.out.frozen 0; have z7 := HT4.out.frozen 1; have z8 := HT4.out.lt; have z9 := HE4.out.lt; clear hm4 hs4)
            go_roundw
            case rel => exact ⟨j + 1, ⟨xe, xv⟩, ⟨te, tv⟩, s5, lv4, fv4, by omega, by go_num, Lib.hid (by rw [← hb.out, HP8.out, if_pos hxe]), Lib.hid HG8.out.1, Lib.hid HG8.out.2.2, Lib.hid (HTO.out.grow HG8.out.2.1), hd5, Lib.hid ((HM4.out.set2 HE4.out hbn _ _).alloc _), Lib.hid ((HS4.out.set2 (by omega) _ _).alloc _), Lib.hid ((HB4.out.far2 (by omega) _ _).alloc _), Lib.hid ((HE4.out.set2 _ _).alloc _), Lib.hid ((HT4.out.far2 (by omega) _ _).alloc _)⟩
            case measure => simp [intOf]; omega
      have k10' : (kk == 10) = false := beq_eq_false_iff_ne.mpr k10
      go_wp2
      go_roundw
      case rel => exact ⟨j + 1, ⟨ee, ev⟩, ⟨te, tv⟩, s3, lv3, fv3, by omega, by go_num, Lib.hid (by rw [← hb.out, partR_o HX.out.symm k8 k9 k10]), HSO, HEO, HTO, hd3, Lib.hid (HM3.out.alloc _), Lib.hid (HS3.out.alloc _), Lib.hid (HB3.out.alloc _), Lib.hid (HE3.out.alloc _), Lib.hid (HT3.out.alloc _)⟩
      case measure => simp [intOf]; omega
    · have a0 := HE3.out.cell 0
      have a1 := HE3.out.cell 1
      have a2 := HB3.out.cell 0
      have a3 := HB3.out.cell 1
      have a4 := HB3.out.frozen 0
      have a5 := HB3.out.frozen 1
      go_wp2
      refine bodyPost_ret (results_cell_row rfl _ _ w.heap.size 56 #[.int .i64 ee, .int .i64 ev] (0, 0) _ rfl (HB3.out.set2 _ _) Try.underlying56 rfl (by kernel_rfl)) rfl ?_
      have e : R = (⟨ee, ev⟩, ⟨te, tv⟩, s3) := by rw [← hb.out, List.drop_eq_nil_of_le (by omega)]; rfl
      exact mret_of HM3.out HS3.out rfl HB3.out hgl H.out.ge (by rw [e]) (by rw [e]) (by rw [e])
end Go.Proofs.Ytihjakpedbaokaa.K
