/- Walks: slices.Sort over numbers; the faults that a fault reaches (impl). -/
import Derived.Test.YtihjakpedbaokaaC03
import Derived.Ground.NamesProg
import Derived.Shelf.Sort.Plain
import Derived.Sort.OwnSortedInts
namespace Go.Proofs.Ytihjakpedbaokaa.K
open Go Go.RowKit Go.Shelf

/-- Where the sort's functions and types lie. -/
def laysSort_ren : Go.Shelf.Ren := ⟨fun | 189 => 102 | 125 => 109 | 257 => 108 | 128 => 120 | 129 => 121 | 294 => 111 | 295 => 112 | 296 => 113 | 297 => 114 | 298 => 115 | 299 => 116 | 216 => 117 | 300 => 118 | 301 => 119 | 328 => 124 | 329 => 125 | 330 => 126 | 331 => 127 | 332 => 128 | 215 => 129 | 343 => 130 | n => n, fun | 28 => 29 | 3 => 3 | 46 => 115 | 0 => 0 | 51 => 126 | 53 => 128 | 4 => 4 | 183 => 119 | 182 => 118 | 131 => 123 | 5 => 5 | 9 => 9 | 218 => 130 | 222 => 134 | 228 => 136 | 229 => 137 | n => n, fun n => n⟩
theorem laysSort : Lays.n189 Try.prog laysSort_ren := {
  mixed := by kernel_rfl,
  f125 := Try.func109.trans (congrArg some (by kernel_rfl)),
  f128 := Try.func120.trans (congrArg some (by kernel_rfl)),
  f129 := Try.func121.trans (congrArg some (by kernel_rfl)),
  f189 := Try.func102.trans (congrArg some (by kernel_rfl)),
  f215 := Try.func129.trans (congrArg some (by kernel_rfl)),
  f216 := Try.func117.trans (congrArg some (by kernel_rfl)),
  f257 := Try.func108.trans (congrArg some (by kernel_rfl)),
  f294 := Try.func111.trans (congrArg some (by kernel_rfl)),
  f295 := Try.func112.trans (congrArg some (by kernel_rfl)),
  f296 := Try.func113.trans (congrArg some (by kernel_rfl)),
  f297 := Try.func114.trans (congrArg some (by kernel_rfl)),
  f298 := Try.func115.trans (congrArg some (by kernel_rfl)),
  f299 := Try.func116.trans (congrArg some (by kernel_rfl)),
  f300 := Try.func118.trans (congrArg some (by kernel_rfl)),
  f301 := Try.func119.trans (congrArg some (by kernel_rfl)),
  f328 := Try.func124.trans (congrArg some (by kernel_rfl)),
  f329 := Try.func125.trans (congrArg some (by kernel_rfl)),
  f330 := Try.func126.trans (congrArg some (by kernel_rfl)),
  f331 := Try.func127.trans (congrArg some (by kernel_rfl)),
  f332 := Try.func128.trans (congrArg some (by kernel_rfl)),
  f343 := Try.func130.trans (congrArg some (by kernel_rfl)),
  t0 := Try.underlying0,
  a0 := Try.isAgg0,
  z0 := Try.sizeOf0,
  v0 := Try.zeroValue0,
  t3 := Try.underlying3,
  a3 := Try.isAgg3,
  z3 := Try.sizeOf3,
  v3 := Try.zeroValue3,
  t4 := Try.underlying4,
  a4 := Try.isAgg4,
  z4 := Try.sizeOf4,
  v4 := Try.zeroValue4,
  t5 := Try.underlying5,
  a5 := Try.isAgg5,
  z5 := Try.sizeOf5,
  v5 := Try.zeroValue5,
  t9 := Try.underlying9,
  a9 := Try.isAgg9,
  z9 := Try.sizeOf9,
  v9 := Try.zeroValue9,
  t28 := Try.underlying29,
  a28 := Try.isAgg29,
  z28 := Try.sizeOf29,
  v28 := Try.zeroValue29,
  t46 := Try.underlying115,
  a46 := Try.isAgg115,
  z46 := Try.sizeOf115,
  v46 := Try.zeroValue115,
  t51 := Try.underlying126,
  a51 := Try.isAgg126,
  z51 := Try.sizeOf126,
  v51 := Try.zeroValue126,
  t53 := Try.underlying128,
  a53 := Try.isAgg128,
  z53 := Try.sizeOf128,
  v53 := Try.zeroValue128,
  t131 := Try.underlying123,
  a131 := Try.isAgg123,
  z131 := Try.sizeOf123,
  v131 := Try.zeroValue123,
  t182 := Try.underlying118,
  a182 := Try.isAgg118,
  z182 := Try.sizeOf118,
  v182 := Try.zeroValue118,
  t183 := Try.underlying119,
  a183 := Try.isAgg119,
  z183 := Try.sizeOf119,
  v183 := Try.zeroValue119,
  t218 := Try.underlying130,
  a218 := Try.isAgg130,
  z218 := Try.sizeOf130,
  v218 := Try.zeroValue130,
  t222 := Try.underlying134,
  a222 := Try.isAgg134,
  z222 := Try.sizeOf134,
  v222 := Try.zeroValue134,
  t228 := Try.underlying136,
  a228 := Try.isAgg136,
  z228 := Try.sizeOf136,
  v228 := Try.zeroValue136,
  t229 := Try.underlying137,
  a229 := Try.isAgg137,
  z229 := Try.sizeOf137,
  v229 := Try.zeroValue137 }

theorem flatI : ∀ xs : List Int, xs.flatMap encI = xs.map (Value.int .i64)
  | [] => rfl
  | x :: xs => by rw [List.flatMap_cons, flatI xs]; rfl
def sortI (l : List Int) : List Int := l.mergeSort fun x y => decide (x ≤ y)
theorem sortI_len (l : List Int) : (sortI l).length = l.length := List.length_mergeSort _
theorem sortI_calls (l : List Int) (v : Value) (base : Nat) (w : World) (h : Own encI 1 3 base w v l) (hl : 0 < l.length) (hn : l.length < 4611686018427387904) :
    Calls Try.prog 102 #[v] w fun e w' => e = .returned (.tuple #[]) ∧ Own encI 1 3 base w' v (sortI l) ∧ w.grownBy w' v.ownBlock := by
  obtain ⟨h1, h2⟩ := h
  rcases h2 with ⟨rfl, hz⟩ | ⟨g, cap, cur, rfl, hg, hh, hcap, hmax, hcs, htk⟩
  · omega
  · rw [flatI] at htk
    have htk2 : cur.toList.take l.length = l.map (Value.int .i64) := by simpa using htk
    have hH := holds_of_blockI (ss := l) hh htk2
    have hlt : g < w.heap.size := (Array.getElem?_eq_some_iff.1 hh).1
    refine (Any.slices_Sort_int laysSort g 0 cap l w hH hlt hn).mono ?_
    rintro e w' ⟨rfl, n, os, rfl⟩
    refine ⟨rfl, ?_, grownBy_sortedI _⟩
    have := ownsRow_sortedI (w := w) (base := base) (g := g) (cap := cap) (n := n) (os := os) (ss := l) (ts := sortI l) (sortI_len l) hg hh hcap hmax hcs
    unfold Own
    rw [flatI, sortI_len]
    exact this
end Go.Proofs.Ytihjakpedbaokaa.K
