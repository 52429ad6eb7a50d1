/- Walk: the faults that a fault reaches (impl.reach). -/
import Derived.Test.YtihjakpedbaokaaC13
namespace Go.Proofs.Ytihjakpedbaokaa.K
open Go Go.RowKit

/-- What a fault of a run reaches: its contexts, in order. -/
def reachF (F : List Flt) (f : Int) : List Int := sortI (chainIx F f)
theorem retI_of_own2 {w w' : World} {A : Option Addr} {n n2 c : Nat} {l : List Int} {base : Nat} (h : Own encI 1 3 base w' (.slice A n c) l) (hbase : w.heap.size ≤ base) (hn2 : n2 = l.length) (hb : Below w.heap.size w w') : RetI w l (.returned (.slice A n2 n2)) w' := by
  subst hn2
  obtain ⟨hr, hn, hf⟩ := h.rd encI_len
  exact ⟨A, _, rfl, hr, fun ad e => by have := (hf ad e).1; omega, Nat.le_refl _, hb⟩

/-- How far the search has come. -/
def Front (F : List Flt) (f : Int) (l : List Int) (k : Nat) : Prop :=
  (∃ (l0 : List Int) (y : Nat), l = l0 ++ [(y : Int)] ∧ l0.length = k ∧ chainIx F f = l0 ++ chainIx F y ∧ y < F.length ∧ ∀ z ∈ l0, (y : Int) < z) ∨ (l = chainIx F f ∧ k = (chainIx F f).length)
theorem Front.start {F : List Flt} {f : Nat} (h : f < F.length) : Front F f [(f : Int)] 0 := .inl ⟨[], f, rfl, rfl, rfl, h, fun z hz => by cases hz⟩
theorem Front.len {F : List Flt} {f : Int} {l : List Int} {k : Nat} (hF : FOk F) (h : Front F f l k) : l.length ≤ (chainIx F f).length ∧ k ≤ (chainIx F f).length := by
  rcases h with ⟨l0, y, rfl, rfl, e, hy, -⟩ | ⟨rfl, rfl⟩
  · have := (hF y hy).2
    rw [e, chainIx_yes (f := (y : Int)) (by omega) (by rw [Int.toNat_natCast]; exact this)]
    simp
  · exact ⟨Nat.le_refl _, Nat.le_refl _⟩
theorem Front.stop {F : List Flt} {f : Int} {l : List Int} {k : Nat} (h : Front F f l k) (hk : ¬ k < l.length) : l = chainIx F f := by
  rcases h with ⟨l0, y, rfl, rfl, -⟩ | ⟨rfl, rfl⟩
  · simp at hk
  · rfl
theorem Front.cur {F : List Flt} {f : Int} {l : List Int} {k : Nat} (hF : FOk F) (h : Front F f l k) (hk : k < l.length) : ∃ y : Nat, y < F.length ∧ l.getD k 0 = y ∧ -1 ≤ (fl F y).ctx ∧ (fl F y).ctx < y ∧ (0 ≤ (fl F y).ctx → hasI l (fl F y).ctx = false ∧ Front F f (l ++ [(fl F y).ctx]) (k + 1)) ∧ (¬ 0 ≤ (fl F y).ctx → Front F f l (k + 1)) := by
  rcases h with ⟨l0, y, rfl, rfl, e, hy, hl⟩ | ⟨rfl, rfl⟩
  · have hc := hF y hy
    have e2 := chainIx_yes (F := F) (f := (y : Int)) (by omega) (by rw [Int.toNat_natCast]; exact hc.2)
    rw [Int.toNat_natCast] at e2
    have hlt : ∀ z ∈ l0 ++ [(y : Int)], (fl F y).ctx < z := fun z hz => by
      rcases List.mem_append.1 hz with hz | hz
      · have := hl z hz; omega
      · simp at hz; omega
    refine ⟨y, hy, by simp, hc.1, hc.2, fun h0 => ⟨hasI_no hlt, ?_⟩, fun h0 => ?_⟩
    · refine .inl ⟨l0 ++ [(y : Int)], (fl F y).ctx.toNat, by rw [Int.toNat_of_nonneg h0], by simp, ?_, by omega, ?_⟩
      · rw [e, e2, Int.toNat_of_nonneg h0]; simp
      · rw [Int.toNat_of_nonneg h0]; exact hlt
    · refine .inr ?_
      rw [e, e2, chainIx_no h0]
      simp
  · omega

set_option maxHeartbeats 4000000 in
set_option maxRecDepth 100000 in
theorem reach_calls (F : List Flt) (A : Option Addr) (c : Nat) (f : Nat) (w : World) (hA : Rd encF 5 w A F) (hF : FOk F) (hn : F.length ≤ 1099511627776) (hf : f < F.length) :
    Calls Try.prog 84 #[.agg #[.slice A F.length c], .int .i64 f] w (RetI w (reachF F f)) := by
  obtain ⟨ad, rfl, -⟩ := hA.flt hf
  have HA := Lib.hid hA
  have HF := Lib.hid hF
  have hcl := chainIx_len F _ (f : Int) rfl
  have HS := Lib.hid (Front.start hf)
  clear hA hF
  have HR : Hid (∀ y : Ext (w.alloc (.cells #[.slice (some ad) F.length c] 32)), Rd encF 5 y.1 (some ad) F) := Lib.hid fun y => (HA.out.alloc _).ext y
  have HC : Hid (∀ y : Ext (w.alloc (.cells #[.slice (some ad) F.length c] 32)), y.1.cell? ⟨w.heap.size, 0, none⟩ = some (.slice (some ad) F.length c)) := Lib.hid fun y => y.cell (by simp)
  have HZ : Hid (∀ y : Ext (w.alloc (.cells #[.slice (some ad) F.length c] 32)), w.heap.size + 1 ≤ y.1.heap.size) := Lib.hid fun y => by have := y.2.size; simpa using this
  have HO0 : Hid (Own encI 1 3 (w.heap.size + 1) (((w.alloc (.cells #[.slice (some ad) F.length c] 32))).alloc (.cells #[.int .i64 f] 3)) (.slice (some ⟨w.heap.size + 1, 0, none⟩) 1 1) [(f : Int)]) := Lib.hid (by
    have := Own.lit (enc := encI) (k := 1) (E := 3) (base := w.heap.size + 1) (w.alloc (.cells #[.slice (some ad) F.length c] 32)) #[.int .i64 f] [(f : Int)] (by simp) (by simp [maxLen]) encI_len rfl
    simpa using this)
  have HY : Hid (∀ y : Ext (w.alloc (.cells #[.slice (some ad) F.length c] 32)), Below (w.heap.size + 1) (w.alloc (.cells #[.slice (some ad) F.length c] 32)) y.1) := Lib.hid fun y => by have := y.2; simpa using this
  have HYW : Hid (∀ w', Below (w.heap.size + 1) (w.alloc (.cells #[.slice (some ad) F.length c] 32)) w' → Below w.heap.size w w') := Lib.hid fun w' h => (below_alloc (Below.refl w.heap.size w) _).trans (h.mono (by omega))
  have HYE : Hid (∀ w', Below (w.heap.size + 1) (w.alloc (.cells #[.slice (some ad) F.length c] 32)) w' → ∃ y : Ext (w.alloc (.cells #[.slice (some ad) F.length c] 32)), w' = y.1) := Lib.hid fun w' h => ⟨⟨w', by simpa using h⟩, rfl⟩
  go_enter Try.func84, Try.ntmps84
  go_wp2
  go_loopw [5, 6] (fun v i w' => ∃ (y : Ext (w.alloc (.cells #[.slice (some ad) F.length c] 32))) (l : List Int) (k : Nat), w' = y.1 ∧ i = .int .i64 k ∧ Hid (Front F f l k) ∧ Hid (Own encI 1 3 (w.heap.size + 1) w' v l)) (fun _ i _ => (chainIx F f).length - (intOf i).toNat)
  case atStart => exact ⟨⟨_, below_alloc (Below.refl _ _) _⟩, [(f : Int)], 0, rfl, rfl, HS, HO0⟩
  case round =>
    obtain ⟨y, l, k, rfl, rfl, HFR, HO⟩ := hrel
    have hll := HFR.out.len HF.out
    obtain ⟨A', c', rfl, hr, hfr, hlc⟩ := HO.out.form encI_len
    have HRL := Lib.hid hr
    clear hr hfr
    by_cases hlt : k < l.length
    · obtain ⟨z, hz, ez, hc1, hc2, hyes, hno⟩ := HFR.out.cur HF.out hlt
      obtain ⟨al, rfl, hal, gk⟩ := HRL.out.int hlt
      rw [ez] at gk
      obtain ⟨_, ead, hbl, -, -, h2, h3, -⟩ := (HR.out y).flt hz
      cases ead
      obtain ⟨d, hd⟩ : ∃ d, d = (fl F z).ctx := ⟨_, rfl⟩
      rw [← hd] at hc1 hc2 hyes hno h3
      have HYES := Lib.hid hyes
      have HNO := Lib.hid hno
      have hcb := HC.out y
      have hsz := HZ.out y
      clear hyes hno hd ez
      go_wp2
      go_region
      go_wp2
      go_loopw [5, 37] (fun v j w' => ∃ (z : Ext (w.alloc (.cells #[.slice (some ad) F.length c] 32))) (l2 : List Int) (n : Nat), w' = z.1 ∧ j = .int .i64 n ∧ n ≤ 2 ∧ y.1.heap.size < z.1.heap.size ∧ Hid (n < 2 → z.1.cell? ⟨y.1.heap.size, 0, none⟩ = some (.int .i64 (-1)) ∧ z.1.cell? ⟨y.1.heap.size, 1, none⟩ = some (.int .i64 d)) ∧ Hid (n < 2 → l2 = l) ∧ Hid (n = 2 → Front F f l2 (k + 1)) ∧ Hid (Own encI 1 3 (w.heap.size + 1) z.1 v l2)) (fun _ j _ => 2 - (intOf j).toNat)
      case atStart => exact ⟨⟨_, below_alloc y.2.drew (.cells #[.int .i64 (-1), .int .i64 d] 3)⟩, l, 0, rfl, rfl, by omega, (by show _ < (y.1.drew.alloc (.cells #[.int .i64 (-1), .int .i64 d] 3)).heap.size; simp), Lib.hid fun _ => ⟨(Blk.new y.1.drew 3 #[.int .i64 (-1), .int .i64 d]).cell 0, (Blk.new y.1.drew 3 #[.int .i64 (-1), .int .i64 d]).cell 1⟩, Lib.hid fun _ => rfl, Lib.hid fun h => by omega, Lib.hid (HO.out.drew.alloc (.cells #[.int .i64 (-1), .int .i64 d] 3))⟩
      case round =>
        obtain ⟨x, l2, n, rfl, rfl, hn2, hsx, HCX, HL2, HF2, HO2⟩ := hrel
        have hsz2 := HZ.out x
        obtain rfl | rfl | rfl : n = 0 ∨ n = 1 ∨ n = 2 := by omega
        · obtain ⟨x0, -⟩ := HCX.out (by omega)
          go_wp2
          go_roundw
          case rel => exact ⟨x, l2, 1, rfl, by go_num, by omega, hsx, Lib.hid fun _ => HCX.out (by omega), Lib.hid fun _ => HL2.out (by omega), Lib.hid fun h => by omega, HO2⟩
          case measure => simp [intOf]
        · obtain ⟨-, x1⟩ := HCX.out (by omega)
          have e := HL2.out (by omega)
          subst e
          by_cases h0 : 0 ≤ d
          · obtain ⟨hno, hfr⟩ := HYES.out h0
            have HNH := Lib.hid hno
            have HFX := Lib.hid hfr
            obtain ⟨B, b', rfl, hrb, -, hbc⟩ := HO2.out.form encI_len
            have HRB := Lib.hid hrb
            clear hno hfr hrb
            go_wp2_with (first
              | (go_at_call 101; refine (calls_ext0 (W := x.1) (hasI_calls l2 B b' d x.1 HRB.out (by omega))).mono ?_; rw [HNH.out]; rintro e w1 ⟨rfl, x2, rfl⟩; have hz2 : w.heap.size + 1 ≤ x2.1.heap.size := Nat.le_trans (HZ.out x) x2.2.size; have HY2 := Lib.hid ((HY.out x).trans (x2.2.mono (HZ.out x))))
              | (at_builtin; (refine wpList_append_elem elemInt rfl (.tmp 49) (.tmp 51) rfl (v := .slice B l2.length b') rfl ((HO2.out.ext x2).alloc _) d ⟨x2.1.heap.size, 0, none⟩ 1 rfl rfl (fun j u hj => by match j, hj with | 0, hj => simp [encI] at hj; subst hj; simp [Addr.add]) (fun u hu => by simp [encI] at hu; subst hu; rfl) (by omega) (by omega) (by simp; omega) ?_; intro v1 w2 ho1 hg1; obtain ⟨x3, rfl⟩ := HYE.out _ (own_below (HY2.out.alloc hz2 _) ((HO2.out.ext x2).alloc _) hg1 (by simp; omega)); have HO3 := Lib.hid ho1; have hx23 := hg1.size; have hx12 := x2.2.size; have hsx3 : y.1.heap.size < x3.1.heap.size := (by simp at hx23; omega); clear ho1 hg1 hx23)))
            go_roundw
            case rel => exact ⟨x3, l2 ++ [d], 2, rfl, by go_num, by omega, hsx3, Lib.hid fun h => by omega, Lib.hid fun h => by omega, Lib.hid fun _ => HFX.out, HO3⟩
            case measure => simp [intOf]
          · have hd0 : decide (0 ≤ d) = false := decide_eq_false h0
            have HFX := Lib.hid (HNO.out (by omega))
            clear h0
            go_wp2
            go_roundw
            case rel => exact ⟨x, l2, 2, rfl, by go_num, by omega, hsx, Lib.hid fun h => by omega, Lib.hid fun h => by omega, Lib.hid fun _ => HFX.out, HO2⟩
            case measure => simp [intOf]
        · go_wp2
          go_roundw
          case rel => exact ⟨x, l2, k + 1, rfl, by go_num, Lib.hid (HF2.out rfl), HO2⟩
          case measure => simp [intOf]; omega
    · have e := HFR.out.stop hlt
      subst e
      have HPOS : Hid (0 < (chainIx F (f : Int)).length) := Lib.hid (by rw [chainIx_yes (f := (f : Int)) (by omega) (by rw [Int.toNat_natCast]; exact (HF.out f hf).2)]; simp)
      go_wp2_with (first
        | (go_at_call 102; refine (sortI_calls _ _ _ y.1 HO.out HPOS.out (by omega)).mono ?_; rintro e w1 ⟨rfl, ho1, hg1⟩; have HO1 := Lib.hid ho1; have HB1 := Lib.hid (own_below (HY.out y) HO.out hg1 (HZ.out y)); clear ho1 hg1)
        | (go_at_call 51; refine (calls_ext0 (W := w1) (clipI_calls A' (chainIx F (f : Int)).length c' w1 hlc)).mono ?_; rintro e w2 ⟨rfl, y2, rfl⟩))
      go_ret
      exact retI_of_own2 (HO1.out.ext y2) (by omega) (sortI_len _).symm (below_trans (HYW.out _ HB1.out) y2.2)
end Go.Proofs.Ytihjakpedbaokaa.K
