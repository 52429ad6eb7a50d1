/- Walk: a line of a program that opens something (impl: machine.line). -/
import Derived.Test.YtihjakpedbaokaaC06
import Derived.Deep.CutRange
namespace Go.Proofs.Ytihjakpedbaokaa.K
open Go Go.RowKit

set_option maxHeartbeats 4000000 in
set_option maxRecDepth 100000 in
theorem line_11 (E : Env) (B : Ru) (i : Nat) (hd : Int) (s : St) (m : M) (w : World) (hi : i < E.p.length) (h : Mach E w m s) (hk : (ln E.p i).kind = 11) (ok : Nat → Prop) (hB : BCalls E ok B) (hok : ok i) (hs : SOk E.t.length s) (hg : GoodR E.t.length B) (h1 : -1 ≤ hd) (h2 : hd < s.flt.length) (ha : 0 ≤ (ln E.p i).a ∧ (ln E.p i).a ≤ 9) (hl : (lineR E.p B i hd s).2.log.length ≤ 1099511627776) (hfl : (lineR E.p B i hd s).2.flt.length ≤ 1099511627776) :
    Calls Try.prog 55 #[.pointer (some ⟨m.g, 0, none⟩), .int .i64 i, .int .i64 hd] w (MRet E w m (lineR E.p B i hd s)) := by
  obtain ⟨g, lv, fv⟩ := m
  obtain ⟨hgl, -, cp, cl, -, c1, f2, -⟩ := h.face
  obtain ⟨ad, hA, hab, g0, g1, g2, g3⟩ := h.p.line hi
  have HA := Lib.hid hA
  rw [hA] at cp
  obtain ⟨x, hx⟩ : ∃ x, x = ln E.p i := ⟨_, rfl⟩
  rw [← hx] at g0 g1 g2 g3 hk ha
  obtain ⟨d, k, a, b⟩ := x
  simp only [] at g0 g1 g2 g3 hk ha
  subst hk
  have HX := Lib.hid hx
  have HRb := Lib.hid hB
  have HSO := Lib.hid hs
  have HGR := Lib.hid hg
  rw [lineR_11 HX.out.symm] at hl hfl ⊢
  have hgood := hg i hd (tell s (100 + a)) (hs.tell _) h1 h2
  have hcal := fun m w hm => hB i hd (tell s (100 + a)) m w hok hm (hs.tell _) h1 h2
  obtain ⟨x, hxx⟩ : ∃ x, x = B i hd (tell s (100 + a)) := ⟨_, rfl⟩
  rw [← hxx] at hl hfl hgood hcal ⊢
  obtain ⟨⟨xe, xv⟩, s3⟩ := x
  simp only [tell, List.length_append, List.length_cons, List.length_nil, Nat.zero_add] at hl hfl
  have hl1 : s.log.length + 1 ≤ 1099511627776 := by have := hgood.2.1.log.length_le; simp only [tell, List.length_append, List.length_cons, List.length_nil, Nat.zero_add] at this; omega
  replace hcal := fun m w hm => hcal m w hm (by simp only []; omega) (by simp only []; omega)
  have HCAL := Lib.hid hcal
  have HGD := Lib.hid hgood
  have hw1 : IntKind.i64.wrap (100 + a) = 100 + a := IntWalk.i64_in _ ⟨by omega, by omega⟩
  have hw2 : IntKind.i64.wrap (200 + a) = 200 + a := IntWalk.i64_in _ ⟨by omega, by omega⟩
  clear hB hs hg hcal hgood hxx
  have H := Lib.hid h
  obtain ⟨n, hn⟩ : ∃ n, n = E.p.length := ⟨_, rfl⟩
  rw [← hn] at cp hi
  have HN := Lib.hid hn
  clear hA hx h hn
  have q0 := cell_alloc' (.cells #[.int .i64 0, .int .i64 0] 56) g0
  have q1 := cell_alloc' (.cells #[.int .i64 0, .int .i64 0] 56) g1
  have q2 := cell_alloc' (.cells #[.int .i64 0, .int .i64 0] 56) g2
  have q3 := cell_alloc' (.cells #[.int .i64 0, .int .i64 0] 56) g3
  have qp := cell_alloc' (.cells #[.int .i64 0, .int .i64 0] 56) cp
  have HM : Hid (∀ y : Ext ((w.alloc (.cells #[.int .i64 0, .int .i64 0] 56)).alloc (.cells #[.int .i64 d, .int .i64 11, .int .i64 a, .int .i64 b] 37)), Mach E y.1 ⟨g, lv, fv⟩ s) := Lib.hid fun y => ((H.out.alloc _).alloc _).ext y
  have gl : ∀ y : Ext ((w.alloc (.cells #[.int .i64 0, .int .i64 0] 56)).alloc (.cells #[.int .i64 d, .int .i64 11, .int .i64 a, .int .i64 b] 37)), g < y.1.heap.size := fun y => y.lt (by simp; omega)
  have y1 : ∀ y : Ext ((w.alloc (.cells #[.int .i64 0, .int .i64 0] 56)).alloc (.cells #[.int .i64 d, .int .i64 11, .int .i64 a, .int .i64 b] 37)), y.1.cell? ⟨g, 4, none⟩ = some (.int .i64 s.first) := fun y => (HM.out y).face.c1
  have y4 : ∀ y : Ext ((w.alloc (.cells #[.int .i64 0, .int .i64 0] 56)).alloc (.cells #[.int .i64 d, .int .i64 11, .int .i64 a, .int .i64 b] 37)), y.1.frozen? ⟨g, 4, none⟩ = false := fun y => (HM.out y).face.f4
  have HBK : Hid (∀ y : Ext ((w.alloc (.cells #[.int .i64 0, .int .i64 0] 56)).alloc (.cells #[.int .i64 d, .int .i64 11, .int .i64 a, .int .i64 b] 37)), Blk y.1 w.heap.size 56 #[.int .i64 0, .int .i64 0]) := Lib.hid fun y => ((Blk.new w _ _).alloc _).ext y
  have HBL : Hid (∀ y : Ext ((w.alloc (.cells #[.int .i64 0, .int .i64 0] 56)).alloc (.cells #[.int .i64 d, .int .i64 11, .int .i64 a, .int .i64 b] 37)), Blk y.1 (w.heap.size + 1) 37 #[.int .i64 d, .int .i64 11, .int .i64 a, .int .i64 b]) := Lib.hid fun y => (by have := Blk.new (w.alloc (.cells #[.int .i64 0, .int .i64 0] 56)) 37 #[.int .i64 d, .int .i64 11, .int .i64 a, .int .i64 b]; rw [show (w.alloc (.cells #[.int .i64 0, .int .i64 0] 56)).heap.size = w.heap.size + 1 from by simp] at this; exact this.ext y)
  have HST : Hid (∀ y : Ext ((w.alloc (.cells #[.int .i64 0, .int .i64 0] 56)).alloc (.cells #[.int .i64 d, .int .i64 11, .int .i64 a, .int .i64 b] 37)), Step w ⟨g, lv, fv⟩ y.1 ⟨g, lv, fv⟩) := Lib.hid fun y => (((Step.refl w _).alloc _).alloc _).trans (Step.ext _ y)
  have ll : ∀ y : Ext ((w.alloc (.cells #[.int .i64 0, .int .i64 0] 56)).alloc (.cells #[.int .i64 d, .int .i64 11, .int .i64 a, .int .i64 b] 37)), w.heap.size + 1 < y.1.heap.size := fun y => (HBL.out y).lt
  have l1 : ∀ y : Ext ((w.alloc (.cells #[.int .i64 0, .int .i64 0] 56)).alloc (.cells #[.int .i64 d, .int .i64 11, .int .i64 a, .int .i64 b] 37)), y.1.cell? ⟨w.heap.size + 1, 1, none⟩ = some (.int .i64 11) := fun y => (HBL.out y).cell 1
  have l2 : ∀ y : Ext ((w.alloc (.cells #[.int .i64 0, .int .i64 0] 56)).alloc (.cells #[.int .i64 d, .int .i64 11, .int .i64 a, .int .i64 b] 37)), y.1.cell? ⟨w.heap.size + 1, 2, none⟩ = some (.int .i64 a) := fun y => (HBL.out y).cell 2
  have l3 : ∀ y : Ext ((w.alloc (.cells #[.int .i64 0, .int .i64 0] 56)).alloc (.cells #[.int .i64 d, .int .i64 11, .int .i64 a, .int .i64 b] 37)), y.1.cell? ⟨w.heap.size + 1, 3, none⟩ = some (.int .i64 b) := fun y => (HBL.out y).cell 3
  have e0 : ∀ (y : Ext ((w.alloc (.cells #[.int .i64 0, .int .i64 0] 56)).alloc (.cells #[.int .i64 d, .int .i64 11, .int .i64 a, .int .i64 b] 37))) (j : Nat), y.1.frozen? ⟨w.heap.size, j, none⟩ = false := fun y j => (HBK.out y).frozen j
  have e1 : ∀ (y : Ext ((w.alloc (.cells #[.int .i64 0, .int .i64 0] 56)).alloc (.cells #[.int .i64 d, .int .i64 11, .int .i64 a, .int .i64 b] 37))), y.1.cell? ⟨w.heap.size, 0, none⟩ = some (.int .i64 0) := fun y => (HBK.out y).cell 0
  have e2 : ∀ (y : Ext ((w.alloc (.cells #[.int .i64 0, .int .i64 0] 56)).alloc (.cells #[.int .i64 d, .int .i64 11, .int .i64 a, .int .i64 b] 37))), y.1.cell? ⟨w.heap.size, 1, none⟩ = some (.int .i64 0) := fun y => (HBK.out y).cell 1
  clear g0 g1 g2 g3 cp cl c1 f2
  go_enter Try.func55, Try.ntmps55
  go_upto_region 20 with (go_at_call 88; refine (calls_ext0 (W := ((w.alloc (.cells #[.int .i64 0, .int .i64 0] 56)).alloc (.cells #[.int .i64 d, .int .i64 11, .int .i64 a, .int .i64 b] 37))) (jumps_calls ⟨d, 11, a, b⟩ _)).mono ?_; rw [show jumps 11 = false from rfl]; rintro e w1 ⟨rfl, y, rfl⟩)
  have hMz := HM.out y
  have hBz := HBK.out y
  have hLz := HBL.out y
  have hSz := HST.out y
  have zg := gl y
  have zl := (HM.out y).face.cl
  have z2 := l2 y
  generalize y.1 = wz at hMz hBz hLz hSz zg zl z2 ⊢
  have zw : w.heap.size + 1 < wz.heap.size := hLz.lt
  have HMz := Lib.hid hMz
  have HBz := Lib.hid hBz
  have HLz := Lib.hid hLz
  have HSz := Lib.hid hSz
  clear hMz hBz hLz hSz HM gl y1 l1 l2 l3 HBK HST y4 HBL ll e0 e1 e2
  go_cut [] from 76 to 87 (fun wx => ∃ lv', Hid (Mach E wx ⟨g, lv', fv⟩ (tell s (100 + a))) ∧ Hid (Step w ⟨g, lv, fv⟩ wx ⟨g, lv', fv⟩) ∧ Hid (Blk wx w.heap.size 56 #[.int .i64 0, .int .i64 0]) ∧ Hid (Blk wx (w.heap.size + 1) 37 #[.int .i64 d, .int .i64 11, .int .i64 a, .int .i64 b]))
  case first =>
    go_region_law ((refine step_append_elem2 elemInt rfl (.tmp 80) (.tmp 84) rfl (v := lv) (base := E.base) (E := 3) (enc := encI) (k := 1) (xs := s.log) rfl ((HMz.out.log.alloc _).drew) (100 + a) ⟨wz.heap.size, 0, none⟩ 1 rfl rfl (fun j u hj => by match j, hj with | 0, hj => simp [encI] at hj; subst hj; simp [Addr.add]) (fun u hu => by simp [encI] at hu; subst hu; rfl) (by omega) (by omega) (by have := HMz.out.ge; simp only [] at this; show _ ≤ (World.alloc _ _).heap.size; simp; omega) ?_; intro v1 w2 ho1 hg1 hn1; have hm2 := (hg1.block g (by show _ < (World.alloc _ _).heap.size; simp; omega) (fun e => HMz.out.lv_ne e.symm)).trans (HMz.out.alloc _).blk; have hb2 := (hg1.block w.heap.size (by show _ < (World.alloc _ _).heap.size; simp; omega) (fun e => (HMz.out.notBlk HBz.out (by decide) (by decide) (by decide)) (.inr (.inl e.symm)))).trans (HBz.out.alloc _); have hb3 := (hg1.block (w.heap.size + 1) (by show _ < (World.alloc _ _).heap.size; simp; omega) (fun e => (HMz.out.notBlk HLz.out (by decide) (by decide) (by decide)) (.inr (.inl e.symm)))).trans (HLz.out.alloc _); have hc2 := Blk.cell hm2 2; have hf2 := Blk.frozen hm2 2; have hl2 := Blk.lt hm2; simp only [] at hc2; obtain ⟨A1, c1, rfl, -, -, -⟩ := ho1.form encI_len; simp only [List.length_append, List.length_cons, List.length_nil, Nat.zero_add] at ho1 hn1; have HO1 := Lib.hid ho1; have HG1 := Lib.hid hg1; have HN1 := Lib.hid hn1; have HB2 := Lib.hid hb2; have HB3 := Lib.hid hb3; clear ho1 hg1 hn1 hm2 hb2 hb3))
    all_goals (
      try go_wp2
      go_meet
      case rel => exact ⟨_, Lib.hid (Mach.setLog (HMz.out.alloc _).drew HO1.out HG1.out HN1.out), Lib.hid (((HSz.out.alloc _).drew.grownL HG1.out HN1.out).setCell (.inr (.inl rfl)) _), Lib.hid (Blk.far HB2.out (by simp; omega) _), Lib.hid (Blk.far HB3.out (by simp; omega) _)⟩)
  case rest =>
    obtain ⟨lv2, HM2, HS2, HB2, HL2⟩ := hcut
    have hgc := HM2.out.blk.lt
    simp only [] at hgc
    go_upto_region 22 with (go_at_call 86; (refine (HCAL.out ⟨g, lv2, fv⟩ wc HM2.out).mono ?_; rintro e w3 ⟨⟨g3, lv3, fv3⟩, rfl, hm3, hs3, hg3⟩; simp only [] at hg3; replace hg3 := hg3.symm; subst hg3; have HM3 := Lib.hid hm3; have HS3 := Lib.hid (HS2.out.trans hs3); have HB3 := Lib.hid (hs3.blkOf HM2.out HB2.out (by decide) (by decide) (by decide)); have HL3 := Lib.hid (hs3.blkOf HM2.out HL2.out (by decide) (by decide) (by decide)); clear hm3 hs3))
    have hMz := HM3.out.alloc (.cells #[.int .i64 xe, .int .i64 xv] 56)
    have hBz := HB3.out.alloc (.cells #[.int .i64 xe, .int .i64 xv] 56)
    have hLz := HL3.out.alloc (.cells #[.int .i64 xe, .int .i64 xv] 56)
    have hSz := HS3.out.alloc (.cells #[.int .i64 xe, .int .i64 xv] 56)
    have hEz := Blk.new w3 56 #[.int .i64 xe, .int .i64 xv]
    have hnz : w.heap.size + 1 < w3.heap.size := HL3.out.lt
    clear HMz HBz HLz HSz zg zl z2 zw q0 q1 q2 q3 qp HM3 HB3 HL3 HS3
    have zg := hMz.blk.lt
    have zl := hMz.face.cl
    have z2 := hLz.cell 2
    have zw : w.heap.size + 1 < (w3.alloc (.cells #[.int .i64 xe, .int .i64 xv] 56)).heap.size := hLz.lt
    have zn : w3.heap.size < (w3.alloc (.cells #[.int .i64 xe, .int .i64 xv] 56)).heap.size := hEz.lt
    simp only [] at zg
    generalize w3.alloc (.cells #[.int .i64 xe, .int .i64 xv] 56) = wz at hMz hBz hLz hSz hEz zg zl z2 zw zn ⊢
    obtain ⟨n8, hn8⟩ : ∃ n8, n8 = w3.heap.size := ⟨_, rfl⟩
    rw [← hn8] at hEz zn hnz ⊢
    clear hn8
    have HMz := Lib.hid hMz
    have HBz := Lib.hid hBz
    have HLz := Lib.hid hLz
    have HSz := Lib.hid hSz
    have HEz := Lib.hid hEz
    clear hMz hBz hLz hSz hEz
    go_cut [] from 92 to 103 (fun wx => ∃ lv', Hid (Mach E wx ⟨g, lv', fv3⟩ (tell s3 (200 + a))) ∧ Hid (Step w ⟨g, lv, fv⟩ wx ⟨g, lv', fv3⟩) ∧ Hid (Blk wx w.heap.size 56 #[.int .i64 0, .int .i64 0]) ∧ Hid (Blk wx (w.heap.size + 1) 37 #[.int .i64 d, .int .i64 11, .int .i64 a, .int .i64 b]) ∧ Hid (Blk wx n8 56 #[.int .i64 xe, .int .i64 xv]))
    case first =>
      go_region_law ((refine step_append_elem2 elemInt rfl (.tmp 96) (.tmp 100) rfl (v := lv3) (base := E.base) (E := 3) (enc := encI) (k := 1) (xs := s3.log) rfl ((HMz.out.log.alloc _).drew) (200 + a) ⟨wz.heap.size, 0, none⟩ 1 rfl rfl (fun j u hj => by match j, hj with | 0, hj => simp [encI] at hj; subst hj; simp [Addr.add]) (fun u hu => by simp [encI] at hu; subst hu; rfl) (by omega) (by omega) (by have := HMz.out.ge; simp only [] at this; show _ ≤ (World.alloc _ _).heap.size; simp; omega) ?_; intro v1 w2 ho1 hg1 hn1; have hm2 := (hg1.block g (by show _ < (World.alloc _ _).heap.size; simp; omega) (fun e => HMz.out.lv_ne e.symm)).trans (HMz.out.alloc _).blk; have hb2 := (hg1.block w.heap.size (by show _ < (World.alloc _ _).heap.size; simp; omega) (fun e => (HMz.out.notBlk HBz.out (by decide) (by decide) (by decide)) (.inr (.inl e.symm)))).trans (HBz.out.alloc _); have hb3 := (hg1.block (w.heap.size + 1) (by show _ < (World.alloc _ _).heap.size; simp; omega) (fun e => (HMz.out.notBlk HLz.out (by decide) (by decide) (by decide)) (.inr (.inl e.symm)))).trans (HLz.out.alloc _); have hc2 := Blk.cell hm2 2; have hf2 := Blk.frozen hm2 2; have hl2 := Blk.lt hm2; simp only [] at hc2; obtain ⟨A1, c1, rfl, -, -, -⟩ := ho1.form encI_len; simp only [List.length_append, List.length_cons, List.length_nil, Nat.zero_add] at ho1 hn1; have HO1 := Lib.hid ho1; have HG1 := Lib.hid hg1; have HN1 := Lib.hid hn1; have HB2 := Lib.hid hb2; have HB3 := Lib.hid hb3; clear ho1 hg1 hn1 hm2 hb2 hb3))
      all_goals (
        try go_wp2
        go_meet
        case rel => exact ⟨_, Lib.hid (Mach.setLog (HMz.out.alloc _).drew HO1.out HG1.out HN1.out), Lib.hid (((HSz.out.alloc _).drew.grownL HG1.out HN1.out).setCell (.inr (.inl rfl)) _), Lib.hid (Blk.far HB2.out (by simp; omega) _), Lib.hid (Blk.far HB3.out (by simp; omega) _),
          Lib.hid (Blk.far ((HG1.out.block n8 (by show _ < (World.alloc _ _).heap.size; simp; omega) (fun e => (HMz.out.notBlk HEz.out (by decide) (by decide) (by decide)) (.inr (.inl e.symm)))).trans (HEz.out.alloc _)) (fun e => by simp only [] at e; exact absurd (.inl e) (HMz.out.notBlk HEz.out (by decide) (by decide) (by decide))) _)⟩)
    case rest =>
      clear HMz HBz HLz HSz zg zl z2 zw zn HEz hgc
      obtain ⟨lv4, HM4, HS4, HB4, HL4, HE4⟩ := hcut
      have a0 := HE4.out.cell 0
      have a1 := HE4.out.cell 1
      have a2 := HE4.out.lt
      have a3 := HL4.out.cell 3
      have a4 := HL4.out.lt
      have a5 := HB4.out.cell 0
      have a6 := HB4.out.cell 1
      have a7 := HB4.out.frozen 0
      have a8 := HB4.out.frozen 1
      by_cases he : xe = 2
      · subst he
        by_cases hb1 : b = 1
        · subst hb1
          go_wp2
          refine bodyPost_ret (results_cell_row rfl _ _ w.heap.size 56 #[.int .i64 0, .int .i64 0] (0, 0) _ rfl (HB4.out.set2 _ _) Try.underlying56 rfl (by kernel_rfl)) rfl ?_
          exact mret_of HM4.out HS4.out rfl HB4.out hgl H.out.ge (by simp) (by simp) (by simp)
        · have hb1' : (b == 1) = false := beq_eq_false_iff_ne.mpr hb1
          go_wp2
          refine bodyPost_ret (results_cell_row rfl _ _ w.heap.size 56 #[.int .i64 2, .int .i64 xv] (0, 0) _ rfl (HB4.out.set2 _ _) Try.underlying56 rfl (by kernel_rfl)) rfl ?_
          exact mret_of HM4.out HS4.out rfl HB4.out hgl H.out.ge (by simp) (by simp) (by simp)
      · have he' : (xe == 2) = false := beq_eq_false_iff_ne.mpr he
        go_wp2
        refine bodyPost_ret (results_cell_row rfl _ _ w.heap.size 56 #[.int .i64 xe, .int .i64 xv] (0, 0) _ rfl (HB4.out.set2 _ _) Try.underlying56 rfl (by kernel_rfl)) rfl ?_
        exact mret_of HM4.out HS4.out rfl HB4.out hgl H.out.ge (by simp [he]) (by simp [he]) (by simp [he])
end Go.Proofs.Ytihjakpedbaokaa.K
