/- Walks: the lines of a block; a block (impl: machine.lines, machine.block). -/
import Derived.Test.YtihjakpedbaokaaC10
namespace Go.Proofs.Ytihjakpedbaokaa.K
open Go Go.RowKit

/-- A block that a runner with the fuel n may run. -/
def okN (E : Env) (n : Nat) (k : Nat) : Prop := k < E.p.length ∧ 5 < (ln E.p k).depth + n
theorem tryRest_depth (p : Prg) (d : Int) : ∀ (m k : Nat), p.length - k = m → ∀ x ∈ tryRest p d k, (ln p x).depth = d := by
  intro m
  induction m using Nat.strongRecOn with
  | ind m ih =>
    intro k h x hx
    rw [tryRest] at hx
    split at hx
    · rename_i hc
      have := endOf_gt p k
      rcases List.mem_cons.1 hx with rfl | hx
      · exact hc.2.1
      · exact ih (p.length - endOf p k) (by omega) _ rfl x hx
    · cases hx
theorem tryFrom_depth {p : Prg} {i : Nat} : ∀ x ∈ tryFrom p i, (ln p x).depth = (ln p i).depth := by
  intro x hx
  rcases List.mem_cons.1 hx with rfl | hx
  · rfl
  · exact tryRest_depth p _ _ _ rfl x hx
theorem linesR_in {T : Tree} {p : Prg} {B : Ru} {te i : Nat} {hd : Int} {s : St} (h : i < te) : linesR T p B te i hd s = if (stepR T p B i hd s).1.e ≠ 0 then stepR T p B i hd s else linesR T p B te (nextR p i) hd (stepR T p B i hd s).2 := by rw [linesR, if_pos h]

set_option maxHeartbeats 8000000 in
set_option maxRecDepth 100000 in
theorem lines_calls (E : Env) (hE : EnvOk E) (htr : ∀ i, i < E.p.length → (ln E.p i).kind = 7 → 2 ≤ (tryFrom E.p i).length) (nf : Nat) (B : Ru) (hB : BCalls E (okN E nf) B) (hg : GoodR E.t.length B) (hnt : 1 ≤ E.t.length) (fr te : Nat) (hto : te ≤ E.p.length) (hok : ∀ k, fr ≤ k → k < te → okN E nf k)
    (hd : Int) (s : St) (m : M) (w : World) (h : Mach E w m s) (hs : SOk E.t.length s) (h1 : -1 ≤ hd) (h2 : hd < s.flt.length) (hlg : (linesR E.t E.p B te fr hd s).2.log.length ≤ 1099511627776) (hfl : (linesR E.t E.p B te fr hd s).2.flt.length ≤ 1099511627776) :
    Calls Try.prog 31 #[.pointer (some ⟨m.g, 0, none⟩), .int .i64 fr, .int .i64 te, .int .i64 hd] w (MRet E w m (linesR E.t E.p B te fr hd s)) := by
  obtain ⟨g, lv, fv⟩ := m
  obtain ⟨R, hR⟩ : ∃ R, R = linesR E.t E.p B te fr hd s := ⟨_, rfl⟩
  rw [← hR] at hlg hfl ⊢
  have HR := Lib.hid hR
  have HB := Lib.hid hB
  have HGR := Lib.hid hg
  have HTR := Lib.hid htr
  have HOK := Lib.hid hok
  have H := Lib.hid h
  have HS := Lib.hid hs
  have HE := Lib.hid hE
  have hgl : g < w.heap.size := h.blk.lt
  have hp24 := hE.len
  clear hR hB hg htr hok h hs hE
  go_enter Try.func31, Try.ntmps31
  go_wp2
  go_loopw [9] (fun v w' => ∃ (i : Nat) (s' : St) (lv' fv' : Value), fr ≤ i ∧ v = .int .i64 i ∧ Hid (linesR E.t E.p B te i hd s' = R) ∧ Hid (SOk E.t.length s') ∧ hd < s'.flt.length ∧ Hid (Mach E w' ⟨g, lv', fv'⟩ s') ∧ Hid (Step w ⟨g, lv, fv⟩ w' ⟨g, lv', fv'⟩) ∧ Hid (Blk w' w.heap.size 56 #[.int .i64 0, .int .i64 0])) (fun v _ => te - (intOf v).toNat)
  case atStart => exact ⟨fr, s, lv, fv, Nat.le_refl _, rfl, Lib.hid HR.out.symm, HS, h2, Lib.hid (H.out.alloc _), Lib.hid ((Step.refl w _).alloc _), Lib.hid (Blk.new w _ _)⟩
  case round =>
    obtain ⟨i, s3, lv3, fv3, hi, rfl, hb, HS3, hd3, HM3, HT3, HB3⟩ := hrel
    have r0 := HB3.out.lt
    by_cases hlt : i < te
    · have hki := HOK.out i hi hlt
      have hip := hki.1
      rw [linesR_in hlt] at hb
      have hgs := good_step (T := E.t) (p := E.p) HGR.out hnt (HE.out.arg i hip) HS3.out h1 hd3
      have hle : (stepR E.t E.p B i hd s3).2.log.length ≤ R.2.log.length ∧ (stepR E.t E.p B i hd s3).2.flt.length ≤ R.2.flt.length := by
        rw [← hb.out]
        split
        · exact ⟨Nat.le_refl _, Nat.le_refl _⟩
        · have := good_lines (T := E.t) (p := E.p) HGR.out hnt HE.out.arg h1 hto _ (nextR E.p i) _ rfl hgs.1 (by have := hgs.2.1.flt.length_le; omega)
          exact ⟨this.2.1.log.length_le, this.2.1.flt.length_le⟩
      obtain ⟨hg0, -, cp, -, -, -, -, -⟩ := HM3.out.face
      obtain ⟨ad, hA, hab, -, l1, -, -⟩ := HM3.out.p.line hip
      rw [hA] at cp
      obtain ⟨kk, hkk⟩ : ∃ kk, kk = (ln E.p i).kind := ⟨_, rfl⟩
      rw [← hkk] at l1
      have HKK := Lib.hid hkk
      have HA := Lib.hid hA
      have HGS := Lib.hid hgs
      have HLE := Lib.hid hle
      have HKI := Lib.hid hki
      have HPR : Hid (∀ y : Ext wr, Rd encL 4 y.1 (some ad) E.p) := Lib.hid fun y => by have := HM3.out.p.ext y; rw [hA] at this; exact this
      have p0 : ∀ y : Ext wr, y.1.cell? ⟨g, 1, none⟩ = some (.slice (some ad) E.p.length E.c) := fun y => y.cell cp
      have p1 : ∀ y : Ext wr, y.1.cell? ⟨(ad.add (i * 4)).block, (ad.add (i * 4)).off + 1, none⟩ = some (.int .i64 kk) := fun y => y.cell l1
      have p2 : ∀ y : Ext wr, g < y.1.heap.size := fun y => y.lt hg0
      have p3 : ∀ y : Ext wr, (y.1.alloc (.cells #[.int .i64 0, .int .i64 0] 56)).cell? ⟨g, 1, none⟩ = some (.slice (some ad) E.p.length E.c) := fun y => cell_alloc' _ (p0 y)
      have p4 : ∀ y : Ext wr, (y.1.alloc (.cells #[.int .i64 0, .int .i64 0] 56)).cell? ⟨(ad.add (i * 4)).block, (ad.add (i * 4)).off + 1, none⟩ = some (.int .i64 kk) := fun y => cell_alloc' _ (p1 y)
      have HPA : Hid (∀ y : Ext wr, Mach E (y.1.alloc (.cells #[.int .i64 0, .int .i64 0] 56)) ⟨g, lv3, fv3⟩ s3) := Lib.hid fun y => (HM3.out.ext y).alloc _
      clear hkk hA hgs hle hki l1
      by_cases k7 : kk = 7
      · subst k7
        have hst : stepR E.t E.p B i hd s3 = tryR E.t E.p B (tryFrom E.p i) hd s3 := by unfold stepR; rw [if_pos HKK.out.symm]
        have hnx : nextR E.p i = endOf E.p ((tryFrom E.p i).getD ((tryFrom E.p i).length - 1) 0) := by unfold nextR; rw [if_pos HKK.out.symm]
        have hl2 := HTR.out i hip HKK.out.symm
        have hl25 : (tryFrom E.p i).length ≤ 25 := by have := tryFrom_len E.p i; omega
        have hmem : ∀ x ∈ tryFrom E.p i, x < E.p.length ∧ okN E nf x := fun x hx => ⟨(tryFrom_mem hip x hx).2, (tryFrom_mem hip x hx).2, by rw [tryFrom_depth x hx]; exact HKI.out.2⟩
        obtain ⟨l, hl⟩ : ∃ l, l = tryFrom E.p i := ⟨_, rfl⟩
        rw [← hl] at hst hnx hl2 hl25 hmem
        obtain ⟨q, hq⟩ : ∃ q, q = l.getD (l.length - 1) 0 := ⟨_, rfl⟩
        have hqm := hmem q (by rw [hq]; simp [List.getElem?_eq_getElem (show l.length - 1 < l.length by omega)])
        have hqi : i ≤ q := tryFrom_ge E.p i q (by rw [← hl, hq]; simp [List.getElem?_eq_getElem (show l.length - 1 < l.length by omega)])
        rw [← hq] at hnx
        have hqp := hqm.1
        have hle := HLE.out
        have hgs := HGS.out
        have hbb := hb.out
        obtain ⟨x, hx⟩ : ∃ x, x = stepR E.t E.p B i hd s3 := ⟨_, rfl⟩
        rw [← hx] at hle hgs hbb hst
        rw [hnx] at hbb
        obtain ⟨⟨xe, xv⟩, s5⟩ := x
        have HL := Lib.hid hl
        have HQ := Lib.hid hq
        have HST := Lib.hid hst
        have HMM := Lib.hid hmem
        have HG5 := Lib.hid hgs
        have HBB := Lib.hid hbb
        have HLE5 := Lib.hid hle
        have hd5 : hd < s5.flt.length := by have := hgs.2.1.flt.length_le; simp only [] at this; omega
        have hgt := endOf_gt E.p q
        have hPA : ∀ y : Ext wr, Rd encL 4 (y.1.alloc (.cells #[.int .i64 0, .int .i64 0] 56)) (some ad) E.p := fun y => (HPR.out y).alloc _
        have HPX := Lib.hid hPA
        clear hst hnx hl hq hqm hmem hgs hbb hx hb HGS HLE hle hPA
        go_upto_region 7 with (first
          | (go_at_call 53; (refine (tryFrom_calls E.p (some ad) E.c i (y.1.alloc (.cells #[.int .i64 0, .int .i64 0] 56)) (HPX.out y) (by omega) hip).mono ?_; rw [← HL.out]; rintro e wt ⟨Al, cl', rfl, hr, hf, hlc, hbt⟩; obtain ⟨al, rfl, hal, ga⟩ := hr.nat (show l.length - 1 < l.length by omega); rw [← HQ.out] at ga; have HRL := Lib.hid hr; have HFL := Lib.hid hf; have HBT := Lib.hid hbt; clear hr hf hbt))
          | (go_at_call 47; refine (calls_ext0 (W := wr) (endOf_calls E.p (some ad) E.c i _ (HPR.out ⟨wr, Below.refl _ _⟩) (by omega) hip)).mono ?_; rintro e w3 ⟨rfl, y, rfl⟩))
        have hMt : Mach E wt ⟨g, lv3, fv3⟩ s3 := (HPA.out y).below HBT.out
        have HMT := Lib.hid hMt
        have hlw : ((l.length : Int) - 1) = ((l.length - 1 : Nat) : Int) := by omega
        have hww : IntKind.i64.wrap ((l.length : Int) - 1) = ((l.length - 1 : Nat) : Int) := by rw [IntWalk.i64_in _ ⟨by omega, by omega⟩]; exact hlw
        have t0 : ∀ z : Ext wt, z.1.cell? ⟨g, 1, none⟩ = some (.slice (some ad) E.p.length E.c) := fun z => z.cell ((hMt.face.cp).trans (by rw [HA.out]))
        have t1 : ∀ z : Ext wt, z.1.cell? (al.add (l.length - 1)) = some (.int .i64 q) := fun z => z.cell ga
        have t2 : ∀ z : Ext wt, g < z.1.heap.size := fun z => z.lt hMt.blk.lt
        have HPT : Hid (∀ z : Ext wt, Rd encL 4 z.1 (some ad) E.p) := Lib.hid fun z => by have := hMt.p.ext z; rw [HA.out] at this; exact this
        clear hMt p0 p1 p2 p3 p4 ga
        refine wp_region_ext_lit (by kernel_rfl) (by kernel_rfl) ?_
        repeat (go_big_quiet_step ((go_at_call 47; exact calls_ext (endOf_calls E.p (some ad) E.c q _ (HPT.out _) (by omega) hqp))))
        refine wpQuiet_nil ?_
        rintro _ ⟨z, rfl⟩
        have HZM : Hid (Mach E z.1 ⟨g, lv3, fv3⟩ s3) := Lib.hid (HMT.out.ext z)
        have HZB : Hid (Blk z.1 w.heap.size 56 #[.int .i64 0, .int .i64 0]) := Lib.hid ((((HB3.out.ext y).alloc _).ext ⟨wt, HBT.out⟩).ext z)
        have HZE : Hid (Blk z.1 y.1.heap.size 56 #[.int .i64 0, .int .i64 0]) := Lib.hid (((Blk.new y.1 56 #[.int .i64 0, .int .i64 0]).ext ⟨wt, HBT.out⟩).ext z)
        have HZS : Hid (Step w ⟨g, lv, fv⟩ z.1 ⟨g, lv3, fv3⟩) := Lib.hid (((HT3.out.trans ((Step.ext _ y).alloc (.cells #[.int .i64 0, .int .i64 0] 56))).trans (Step.of_below HBT.out)).trans (Step.ext _ z))
        have HTC : Hid (Calls Try.prog 54 #[.pointer (some ⟨g, 0, none⟩), .slice (some al) l.length cl', .int .i64 hd] z.1 (MRet E z.1 ⟨g, lv3, fv3⟩ (tryR E.t E.p B l hd s3))) := Lib.hid (try_calls E HE.out _ B HB.out HGR.out l (some al) cl' hd s3 ⟨g, lv3, fv3⟩ z.1 (HRL.out.ext z) hl2 hlc hl25 HMM.out (by
            rintro ad' e _ hbk
            have h1 := HFL.out ad' e
            have h2 := (HM3.out.lt _ hbk).2
            have h3 := y.2.size
            simp at h1
            omega) HZM.out HS3.out h1 hd3 (by rw [← HST.out]; exact Nat.le_trans HLE5.out.1 hlg) (by rw [← HST.out]; exact Nat.le_trans HLE5.out.2 hfl))
        have htc := HTC.out
        rw [← HST.out] at htc
        have HTX := Lib.hid htc
        have zy : w.heap.size < y.1.heap.size := y.lt r0
        have zb : E.base ≤ y.1.heap.size := by have := H.out.ge; simp only [] at this; omega
        clear htc HTC t0 t1 t2
        go_wp2_with (go_at_call 54; refine HTX.out.mono ?_; rintro e w4 ⟨⟨g4, lv4, fv4⟩, rfl, hm4, hs4, hg4⟩; simp only [] at hg4; replace hg4 := hg4.symm; subst hg4; have HM4 := Lib.hid hm4; have HS4 := Lib.hid (HZS.out.trans hs4); have HB4 := Lib.hid (hs4.blkOf HZM.out HZB.out (by decide) (by decide) (by decide)); have HE4 := Lib.hid (hs4.blkOf HZM.out HZE.out (by decide) (by decide) (by decide)); have z0 := HE4.out.cell 0; have z1 := HE4.out.cell 1; have z2 := HE4.out.frozen 0; have z3 := HE4.out.frozen 1; have z4 := HE4.out.lt; have z5 := HB4.out.cell 0; have z6 := HB4.out.cell 1; have z7 := HB4.out.frozen 0; have z8 := HB4.out.frozen 1; have z9 := HB4.out.lt; clear hm4 hs4; by_cases hxe : xe = 0)
        all_goals first
          | (refine bodyPost_ret (results_cell_row rfl _ _ w.heap.size 56 #[.int .i64 xe, .int .i64 xv] (0, 0) _ rfl ((HB4.out.far2 (by omega) _ _).set2 _ _) Try.underlying56 rfl (by kernel_rfl)) rfl ?_; have e : R = (⟨xe, xv⟩, s5) := (by rw [← HBB.out]; exact if_pos hxe); exact mret_of (HM4.out.set2 HE4.out zb _ _) (HS4.out.set2 (by omega) _ _) rfl (HB4.out.far2 (by omega) _ _) hgl H.out.ge (by rw [e]) (by rw [e]) (by rw [e]))
          | (go_roundw
             case rel => exact ⟨endOf E.p q, s5, lv4, fv4, by omega, rfl, Lib.hid (by rw [← HBB.out]; exact (if_neg (fun h => h hxe)).symm), Lib.hid HG5.out.1, hd5, Lib.hid (HM4.out.set2 HE4.out zb _ _), Lib.hid (HS4.out.set2 (by omega) _ _), Lib.hid (HB4.out.far2 (by omega) _ _)⟩
             case measure => simp [intOf]; omega)
      · have k7' : (kk == 7) = false := beq_eq_false_iff_ne.mpr k7
        have HST : Hid (stepR E.t E.p B i hd s3 = lineR E.p B i hd s3) := Lib.hid (by unfold stepR; rw [if_neg (by rw [← HKK.out]; exact k7)])
        have hlc : ∀ y : Ext wr, Calls Try.prog 55 #[.pointer (some ⟨g, 0, none⟩), .int .i64 i, .int .i64 hd] (y.1.alloc (.cells #[.int .i64 0, .int .i64 0] 56)) (MRet E (y.1.alloc (.cells #[.int .i64 0, .int .i64 0] 56)) ⟨g, lv3, fv3⟩ (lineR E.p B i hd s3)) := fun y => line_calls E HE.out _ B HB.out HGR.out i hd s3 ⟨g, lv3, fv3⟩ _ hip (fun _ => HKI.out) (HPA.out y) HS3.out h1 hd3 (by have := HLE.out.1; rw [HST.out] at this; omega) (by have := HLE.out.2; rw [HST.out] at this; omega)
        rw [← HST.out] at hlc
        have hgs := HGS.out
        have hbb := hb.out
        have hnx : nextR E.p i = endOf E.p i := by unfold nextR; rw [if_neg (by rw [← HKK.out]; exact k7)]
        obtain ⟨x, hx⟩ : ∃ x, x = stepR E.t E.p B i hd s3 := ⟨_, rfl⟩
        rw [← hx] at hlc hgs hbb
        rw [hnx] at hbb
        obtain ⟨⟨xe, xv⟩, s5⟩ := x
        have HLC := Lib.hid hlc
        have HG5 := Lib.hid hgs
        have HBB := Lib.hid hbb
        have hd5 : hd < s5.flt.length := by have := hgs.2.1.flt.length_le; simp only [] at this; omega
        have hgt := endOf_gt E.p i
        clear hlc hgs hbb hx hnx hb HST HGS
        go_wp2_with (first
          | (go_at_call 55; refine (HLC.out y).mono ?_; rintro e w4 ⟨⟨g4, lv4, fv4⟩, rfl, hm4, hs4, hg4⟩; simp only [] at hg4; replace hg4 := hg4.symm; subst hg4; have HM4 := Lib.hid hm4; have HS4 := Lib.hid ((HT3.out.trans ((Step.ext _ y).alloc (.cells #[.int .i64 0, .int .i64 0] 56))).trans hs4); have HB4 := Lib.hid (hs4.blkOf (HPA.out y) ((HB3.out.ext y).alloc _) (by decide) (by decide) (by decide)); have HE4 := Lib.hid (hs4.blkOf (HPA.out y) (Blk.new y.1 56 #[.int .i64 0, .int .i64 0]) (by decide) (by decide) (by decide)); have z0 := HE4.out.cell 0; have z1 := HE4.out.cell 1; have z2 := HE4.out.frozen 0; have z3 := HE4.out.frozen 1; have z4 := HE4.out.lt; have z5 := HB4.out.cell 0; have z6 := HB4.out.cell 1; have z7 := HB4.out.frozen 0; have z8 := HB4.out.frozen 1; have z9 := HB4.out.lt; have zy := y.lt r0; have zb : E.base ≤ y.1.heap.size := (by have := H.out.ge; simp only [] at this; omega); clear hm4 hs4; by_cases hxe : xe = 0)
          | (go_at_call 47; refine (calls_ext0 (W := wr) (endOf_calls E.p (some ad) E.c i _ (HPR.out ⟨wr, Below.refl _ _⟩) (by omega) hip)).mono ?_; rintro e w3 ⟨rfl, y, rfl⟩))
        all_goals first
          | (refine bodyPost_ret (results_cell_row rfl _ _ w.heap.size 56 #[.int .i64 xe, .int .i64 xv] (0, 0) _ rfl ((HB4.out.far2 (by omega) _ _).set2 _ _) Try.underlying56 rfl (by kernel_rfl)) rfl ?_; have e : R = (⟨xe, xv⟩, s5) := (by rw [← HBB.out]; exact if_pos hxe); exact mret_of (HM4.out.set2 HE4.out zb _ _) (HS4.out.set2 (by omega) _ _) rfl (HB4.out.far2 (by omega) _ _) hgl H.out.ge (by rw [e]) (by rw [e]) (by rw [e]))
          | (go_roundw
             case rel => exact ⟨endOf E.p i, s5, lv4, fv4, by omega, rfl, Lib.hid (by rw [← HBB.out]; exact (if_neg (fun h => h hxe)).symm), Lib.hid HG5.out.1, hd5, Lib.hid (HM4.out.set2 HE4.out zb _ _), Lib.hid (HS4.out.set2 (by omega) _ _), Lib.hid (HB4.out.far2 (by omega) _ _)⟩
             case measure => simp [intOf]; omega)
    · have a0 := HB3.out.cell 0
      have a1 := HB3.out.cell 1
      have a2 := HB3.out.frozen 0
      have a3 := HB3.out.frozen 1
      go_wp2
      refine bodyPost_ret (results_cell_row rfl _ _ w.heap.size 56 #[.int .i64 0, .int .i64 0] (0, 0) _ rfl (HB3.out.set2 _ _) Try.underlying56 rfl (by kernel_rfl)) rfl ?_
      have e : R = (⟨0, 0⟩, s3) := by rw [← hb.out, linesR_out hlt]
      exact mret_of HM3.out HT3.out rfl HB3.out hgl H.out.ge (by rw [e]) (by rw [e]) (by rw [e])

theorem endFrom_deep (p : Prg) (d : Int) : ∀ (m k : Nat), p.length - k = m → ∀ x, k ≤ x → x < endFrom p d k → x < p.length ∧ d < (ln p x).depth := by
  intro m
  induction m with
  | zero => intro k h x h1 h2; rw [endFrom, if_neg (by omega)] at h2; omega
  | succ m ih =>
    intro k h x h1 h2
    rw [endFrom] at h2
    split at h2
    · rename_i hc
      rcases Nat.lt_or_eq_of_le h1 with h1 | rfl
      · exact ih (k + 1) (by omega) x (by omega) h2
      · exact hc
    · omega
theorem block_zero (E : Env) (hE : EnvOk E) : ∀ k, ¬ okN E 0 k := fun k h => by
  have := (hE.dep k h.1).2
  have := h.2
  omega
set_option maxHeartbeats 2000000 in
set_option maxRecDepth 100000 in
theorem block_calls (E : Env) (hE : EnvOk E) (htr : ∀ i, i < E.p.length → (ln E.p i).kind = 7 → 2 ≤ (tryFrom E.p i).length) (hnt : 1 ≤ E.t.length) : ∀ nf : Nat, BCalls E (okN E nf) (blockR E.t E.p nf)
  | 0 => fun i _ _ _ _ hok _ _ _ _ _ _ => absurd hok (block_zero E hE i)
  | nf + 1 => by
    intro i hd s m w hok h hs h1 h2 hlg hfl
    have ih := block_calls E hE htr hnt nf
    have hle : endOf E.p i ≤ E.p.length := endOf_le E.p hok.1
    have hdp := endFrom_deep E.p (ln E.p i).depth _ (i + 1) rfl
    obtain ⟨g, lv, fv⟩ := m
    have hlc := fun w (h : Mach E w ⟨g, lv, fv⟩ s) => lines_calls E hE htr nf _ ih (good_block hnt hE.arg nf) hnt (i + 1) (endOf E.p i) hle (fun k hk1 hk2 => ⟨(hdp k hk1 hk2).1, by have := (hdp k hk1 hk2).2; have := hok.2; omega⟩) hd s ⟨g, lv, fv⟩ w h hs h1 h2 hlg hfl
    have hp24 := hE.len
    have hip := hok.1
    obtain ⟨R, hR⟩ : ∃ R, R = blockR E.t E.p (nf + 1) i hd s := ⟨_, rfl⟩
    change ∀ w, Mach E w ⟨g, lv, fv⟩ s → Calls _ _ _ w (MRet E w ⟨g, lv, fv⟩ (blockR E.t E.p (nf + 1) i hd s)) at hlc
    rw [← hR] at hlc ⊢
    obtain ⟨⟨xe, xv⟩, s5⟩ := R
    obtain ⟨hgl, -, cp, -, -, -, -, -⟩ := h.face
    obtain ⟨ad, hA, hab, -, -, -, -⟩ := h.p.line hip
    rw [hA] at cp
    have HPR : Hid (Rd encL 4 (w.alloc (.cells #[.int .i64 0, .int .i64 0] 56)) (some ad) E.p) := Lib.hid (by have := h.p.alloc (.cells #[.int .i64 0, .int .i64 0] 56); rw [hA] at this; exact this)
    have q0 := cell_alloc' (.cells #[.int .i64 0, .int .i64 0] 56) cp
    have HLC := Lib.hid hlc
    have H := Lib.hid h
    have HB : Hid (∀ y : Ext (w.alloc (.cells #[.int .i64 0, .int .i64 0] 56)), Blk y.1 w.heap.size 56 #[.int .i64 0, .int .i64 0]) := Lib.hid fun y => (Blk.new w _ _).ext y
    have HM : Hid (∀ y : Ext (w.alloc (.cells #[.int .i64 0, .int .i64 0] 56)), Mach E y.1 ⟨g, lv, fv⟩ s) := Lib.hid fun y => (h.alloc _).ext y
    have hgb := h.ge
    clear hlc h cp hA hdp ih hR hok hE htr hlg hfl hs
    go_enter Try.func86, Try.ntmps86
    go_wp2_with (first
      | (go_at_call 47; refine (calls_ext0 (W := w.alloc (.cells #[.int .i64 0, .int .i64 0] 56)) (endOf_calls E.p (some ad) E.c i _ HPR.out (by omega) hip)).mono ?_; rintro e w3 ⟨rfl, y, rfl⟩)
      | (go_at_call 31; go_loud (refine (HLC.out y.1 (HM.out y)).mono ?_; rintro e w4 ⟨⟨g4, lv4, fv4⟩, rfl, hm4, hs4, hg4⟩; simp only [] at hg4; replace hg4 := hg4.symm; subst hg4; have HM4 := Lib.hid hm4; have HS4 := Lib.hid ((((Step.refl w ⟨g, lv, fv⟩).alloc (.cells #[.int .i64 0, .int .i64 0] 56)).trans (Step.ext _ y)).trans hs4); have HB4 := Lib.hid (hs4.blkOf (HM.out y) (HB.out y) (by decide) (by decide) (by decide)); have z5 := HB4.out.cell 0; have z6 := HB4.out.cell 1; have z7 := HB4.out.frozen 0; have z8 := HB4.out.frozen 1; have z9 := HB4.out.lt; clear hm4 hs4)))
    refine bodyPost_ret (results_cell_row rfl _ _ w.heap.size 56 #[.int .i64 xe, .int .i64 xv] (0, 0) _ rfl (HB4.out.set2 _ _) Try.underlying56 rfl (by kernel_rfl)) rfl ?_
    exact mret_of HM4.out HS4.out rfl HB4.out hgl hgb rfl rfl rfl
end Go.Proofs.Ytihjakpedbaokaa.K
