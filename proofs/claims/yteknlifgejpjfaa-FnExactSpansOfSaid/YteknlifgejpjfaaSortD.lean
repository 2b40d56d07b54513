/-
  Crossings sorted by the library: the contract at a row of one's own. (The premise 'srtLay' is the kit's printed laying at this seat.)
-/
import Derived.Shelf.SlSortCmp.NoneTotal
import Derived.Test.YteknlifgejpjfaaSortC
namespace Go.Proofs.Yteknlifgejpjfaa
open Go Go.RowKit Reg
def srtLay_ren : Go.Shelf.Ren := ⟨fun | 6 => 46 | 15 => 60 | 14 => 59 | 28 => 74 | 29 => 75 | 20 => 66 | 21 => 67 | 22 => 68 | 23 => 69 | 24 => 70 | 25 => 71 | 26 => 72 | 27 => 73 | 46 => 76 | 47 => 77 | 48 => 78 | 49 => 79 | 50 => 80 | 57 => 81 | n => n, fun | 22 => 24 | 24 => 47 | 25 => 72 | 3 => 3 | 39 => 81 | 0 => 0 | 53 => 93 | 55 => 95 | 4 => 4 | 46 => 86 | 45 => 85 | 50 => 90 | 5 => 5 | 9 => 9 | 66 => 96 | 70 => 100 | 76 => 102 | 77 => 103 | n => n, fun | n => n⟩
theorem srtLay : Go.Proofs.SlLaysF0.n6 Try.prog srtLay_ren := {
  mixed := by kernel_rfl
  f6 := ⟨Try.f46.name, by decide, Try.func46.trans (congrArg some (by kernel_rfl))⟩
  f14 := ⟨Try.f59.name, by decide, Try.func59.trans (congrArg some (by kernel_rfl))⟩
  f15 := Try.func60.trans (congrArg some (by kernel_rfl))
  f20 := ⟨Try.f66.name, by decide, Try.func66.trans (congrArg some (by kernel_rfl))⟩
  f21 := ⟨Try.f67.name, by decide, Try.func67.trans (congrArg some (by kernel_rfl))⟩
  f22 := ⟨Try.f68.name, by decide, Try.func68.trans (congrArg some (by kernel_rfl))⟩
  f23 := ⟨Try.f69.name, by decide, Try.func69.trans (congrArg some (by kernel_rfl))⟩
  f24 := ⟨Try.f70.name, by decide, Try.func70.trans (congrArg some (by kernel_rfl))⟩
  f25 := ⟨Try.f71.name, by decide, Try.func71.trans (congrArg some (by kernel_rfl))⟩
  f26 := ⟨Try.f72.name, by decide, Try.func72.trans (congrArg some (by kernel_rfl))⟩
  f27 := ⟨Try.f73.name, by decide, Try.func73.trans (congrArg some (by kernel_rfl))⟩
  f28 := Try.func74.trans (congrArg some (by kernel_rfl))
  f29 := Try.func75.trans (congrArg some (by kernel_rfl))
  f46 := ⟨Try.f76.name, by decide, Try.func76.trans (congrArg some (by kernel_rfl))⟩
  f47 := Try.func77.trans (congrArg some (by kernel_rfl))
  f48 := Try.func78.trans (congrArg some (by kernel_rfl))
  f49 := ⟨Try.f79.name, by decide, Try.func79.trans (congrArg some (by kernel_rfl))⟩
  f50 := ⟨Try.f80.name, by decide, Try.func80.trans (congrArg some (by kernel_rfl))⟩
  f57 := ⟨Try.f81.name, by decide, Try.func81.trans (congrArg some (by kernel_rfl))⟩
  t0 := Try.underlying0
  a0 := Try.isAgg0
  z0 := Try.sizeOf0
  v0 := Try.zeroValue0
  t3 := Try.underlying3
  a3 := Try.isAgg3
  z3 := Try.sizeOf3
  v3 := Try.zeroValue3
  t4 := Try.underlying4
  a4 := Try.isAgg4
  z4 := Try.sizeOf4
  v4 := Try.zeroValue4
  t5 := Try.underlying5
  a5 := Try.isAgg5
  z5 := Try.sizeOf5
  v5 := Try.zeroValue5
  t9 := Try.underlying9
  a9 := Try.isAgg9
  z9 := Try.sizeOf9
  v9 := Try.zeroValue9
  t22 := Try.underlying24
  a22 := Try.isAgg24
  z22 := Try.sizeOf24
  v22 := Try.zeroValue24
  t25 := Try.underlying72
  a25 := Try.isAgg72
  z25 := Try.sizeOf72
  v25 := Try.zeroValue72
  t39 := Try.underlying81
  a39 := Try.isAgg81
  z39 := Try.sizeOf81
  v39 := Try.zeroValue81
  t45 := Try.underlying85
  a45 := Try.isAgg85
  z45 := Try.sizeOf85
  v45 := Try.zeroValue85
  t46 := Try.underlying86
  a46 := Try.isAgg86
  z46 := Try.sizeOf86
  v46 := Try.zeroValue86
  t50 := Try.underlying90
  a50 := Try.isAgg90
  z50 := Try.sizeOf90
  v50 := Try.zeroValue90
  t53 := Try.underlying93
  a53 := Try.isAgg93
  z53 := Try.sizeOf93
  v53 := Try.zeroValue93
  t55 := Try.underlying95
  a55 := Try.isAgg95
  z55 := Try.sizeOf95
  v55 := Try.zeroValue95
  t66 := Try.underlying96
  a66 := Try.isAgg96
  z66 := Try.sizeOf96
  v66 := Try.zeroValue96
  t70 := Try.underlying100
  a70 := Try.isAgg100
  z70 := Try.sizeOf100
  v70 := Try.zeroValue100
  t76 := Try.underlying102
  a76 := Try.isAgg102
  z76 := Try.sizeOf102
  v76 := Try.zeroValue102
  t77 := Try.underlying103
  a77 := Try.isAgg103
  z77 := Try.sizeOf103
  v77 := Try.zeroValue103 }

theorem srt_block {w : World} {g : Nat} {cur : Array Value} {e : TypeId} {fz : Nat × Nat} (h : w.heap[g]? = some (.cells cur e fz)) (m : Nat) (dk : Array Pt) (os : Array Obj) :
    (Go.Proofs.sortWorldK ptC 2 w g 0 m dk os).heap[g]? = some (.cells (Go.Sort.putCells id 0 (Go.Sort.flatK ptC 2 dk) cur) e fz) := by
  have hlt : g < w.heap.size := (Array.getElem?_eq_some_iff.1 h).1
  unfold Go.Proofs.sortWorldK Go.Sort.putRowK Go.Sort.putRow
  rw [Go.Sort.heap_grow_old _ _ (by simpa [Go.Sort.mapBlock, Go.Sort.ahead] using hlt)]
  unfold Go.Sort.mapBlock Go.Sort.ahead
  dsimp only
  rw [Array.getElem?_modify, if_pos rfl, h]
  rfl
theorem srt_grown (w : World) (g : Nat) (m : Nat) (dk : Array Pt) (os : Array Obj) : w.grownBy (Go.Proofs.sortWorldK ptC 2 w g 0 m dk os) (some g) := by
  refine ⟨rfl, rfl, rfl, ?_, fun k hk hne => ?_⟩
  · simp [Go.Proofs.sortWorldK, Go.Sort.putRowK, Go.Sort.putRow, Go.Sort.mapBlock, Go.Sort.ahead]
  · unfold Go.Proofs.sortWorldK Go.Sort.putRowK Go.Sort.putRow
    rw [Go.Sort.heap_grow_old _ _ (by simpa [Go.Sort.mapBlock, Go.Sort.ahead] using hk)]
    unfold Go.Sort.mapBlock Go.Sort.ahead
    dsimp only
    rw [Array.getElem?_modify, if_neg (fun e => hne (by rw [e]))]
theorem ptC_bang (x : Pt) (r : Nat) (h : r < 2) : (ptC x)[r]? = some (ptC x)[r]! := by
  have : r = 0 ∨ r = 1 := by omega
  rcases this with rfl | rfl <;> rfl
theorem flatK_at (cs : List Pt) (j : Nat) (h : j < cs.length * 2) : (cs.flatMap ptC)[j]? = some (ptC cs.toArray[j / 2]!)[j % 2]! := by
  have h2 : j / 2 < cs.length := by omega
  have h3 := flat_get ptC_len cs [] (j / 2) h2 (j % 2) (by omega)
  rw [List.append_nil, show j / 2 * 2 + j % 2 = j by omega] at h3
  rw [h3, ptC_bang _ _ (by omega)]
  congr 3
  rw [getElem!_pos cs.toArray (j / 2) (by simpa using h2)]
  simp
theorem holds_of {w : World} {B : Nat} {T : TypeId} {cs : List Pt} {g cap : Nat} (h : Has w B T 2 (.slice (some ⟨g, 0, none⟩) cs.length cap) cs.length (cs.flatMap ptC)) : Go.Sort.HoldsK ptC 2 w g 0 cs.toArray := by
  intro j hj
  rw [Go.Sort.size_flatK] at hj
  have hj' : j < cs.length * 2 := by simpa using hj
  rw [Go.Sort.get_flatK _ _ _ _ hj, Nat.zero_add]
  exact ⟨(h.cellAt j hj').trans (flatK_at cs j hj'), h.frozenAt j⟩
theorem has_of {w : World} {B : Nat} {T : TypeId} {cs : List Pt} {g cap m : Nat} {dk : Array Pt} {os : Array Obj} (h : Has w B T 2 (.slice (some ⟨g, 0, none⟩) cs.length cap) cs.length (cs.flatMap ptC)) (hs : dk.size = cs.length) :
    Has (Go.Proofs.sortWorldK ptC 2 w g 0 m dk os) B T 2 (.slice (some ⟨g, 0, none⟩) cs.length cap) cs.length (dk.toList.flatMap ptC) := by
  have hH := holds_of h
  rcases h.2 with ⟨h0, _⟩ | ⟨g', cap', cur, h1, h2, h3, h4, h5, h6, h7⟩
  · cases h0
  · injection h1 with h1 _ hc
    injection h1 with h1
    injection h1 with h1 _ _
    subst h1 hc
    have hlt : g < w.heap.size := (Array.getElem?_eq_some_iff.1 h3).1
    have hH' := Go.Proofs.holdsK_sortWorldK_c ptC 2 w g 0 cs.toArray dk m os hH hlt (by rw [hs]; simp)
    have hb := srt_block h3 m dk os
    have hl : (dk.toList.flatMap ptC).length = cs.length * 2 := by rw [flat_len ptC_len]; simp [hs]
    refine ⟨hl, .inr ⟨g, cap, _, rfl, h2, hb, h4, h5, by simpa [Go.Sort.putCells] using h6, ?_⟩⟩
    apply List.ext_getElem?
    intro j
    by_cases hj : j < cs.length * 2
    · have a1 := (hH' j (by rw [Go.Sort.size_flatK, hs]; exact hj)).1
      rw [Go.Sort.get_flatK _ _ _ _ (by rw [hs]; exact hj), Nat.zero_add] at a1
      unfold World.cell? at a1
      simp only [hb] at a1
      rw [List.getElem?_take, if_pos hj, Array.getElem?_toList]
      have a2 := flatK_at dk.toList j (by simpa [hs] using hj)
      rw [a2]
      simpa using a1
    · rw [List.getElem?_take, if_neg hj, List.getElem?_eq_none (by omega)]
theorem srt_list {cs : List Pt} {d' : Array Pt} (hp : Go.Sort.PermIn 0 cs.toArray.size cs.toArray d') (hs : Go.Sort.SortedIn (Go.Proofs.ltOf cmpC) 0 cs.toArray.size d') : d'.toList = srtC cs := by
  obtain ⟨h1, _, h2⟩ := hp
  refine srtC_eq ?_ ?_
  · refine List.pairwise_iff_getElem.2 fun i j hi hj hij => ?_
    have := hs i j (Nat.zero_le _) hij (by rw [← h1]; simpa using hj)
    rw [cmpC_lt, befB_no] at this
    rw [getElem!_pos d' i (by simpa using hi), getElem!_pos d' j (by simpa using hj)] at this
    simpa using this
  · have h3 : d'.toList.length = cs.length := by simpa using h1
    have h4 : List.take cs.length d'.toList = d'.toList := List.take_of_length_le (by omega)
    simpa [h1, h4] using h2
theorem c_sortC {B : Nat} {A : Option Addr} {cap : Nat} {cs : List Pt} {w : World} (h : Has w B 47 2 (.slice A cs.length cap) cs.length (cs.flatMap ptC)) (hn : cs.length ≤ 1000000) :
    Calls Try.prog 46 #[.slice A cs.length cap, .func (.func 47) #[] #[]] w fun e w' => e = .returned (.tuple #[]) ∧ Has w' B 47 2 (.slice A cs.length cap) cs.length ((srtC cs).flatMap ptC) ∧ w.grownBy w' (Value.slice A cs.length cap).ownBlock := by
  rcases Nat.eq_zero_or_pos cs.length with h0 | h0
  · obtain rfl := List.eq_nil_of_length_eq_zero h0
    have hcon := Go.Proofs.AnyF.slices_SortFunc_none srtLay A cap (.func (.func 47) #[] #[]) w
    change Calls Try.prog 46 _ _ _ at hcon
    refine hcon.mono ?_
    rintro e w' ⟨rfl, rfl⟩
    refine ⟨rfl, ?_, only_refl _ _⟩
    have : srtC [] = [] := by simp [srtC]
    rw [this]; exact h
  · obtain ⟨g, rfl, hg0, hg⟩ := own_at h h0
    have eg : ∀ args w, (callFunc 47 args).run Try.prog w = .ok (.enter 47 args) w := Go.Proofs.enters_of Try.func47 (by kernel_rfl) rfl
    have hcon := Go.Proofs.AnyQ.slices_SortFunc srtLay 2 Try.isAgg47 Try.sizeOf47 ptC ptC_len ptC_one cmpC cmpC_swo 47 #[] g 0 cap cs.toArray w eg (fun _ _ _ _ x y => c_cmpC x y _) (holds_of h) hg (by simp; omega)
    change Calls Try.prog 46 _ _ _ at hcon
    rw [show cs.toArray.size = cs.length from rfl] at hcon
    refine hcon.mono ?_
    rintro e w' ⟨rfl, d', m, os, hp, hs, rfl⟩
    have hl := srt_list hp hs
    refine ⟨rfl, ?_, srt_grown _ _ _ _ _⟩
    rw [← hl]
    exact has_of h hp.1
end Go.Proofs.Yteknlifgejpjfaa
