/-
  Polygons marked, and marks looked for.
-/
import Derived.Test.YtnclnmciaehgeaaMark
import Derived.Test.YtnclnmciaehgeaaOrg
namespace Go.Proofs.Ytnclnmciaehgeaa
open Go Go.RowKit Reg
attribute [local go_sem] calmAt calmUpon
def markRg (k : Int) : List Rg → List Rg
  | [] => []
  | r :: rs => mkP k r.length :: markRg (k + 2 * (r.length : Int)) rs
def endRg (k : Int) : List Rg → Int
  | [] => k
  | r :: rs => endRg (k + 2 * (r.length : Int)) rs
theorem markRg_len (k : Int) (rs : List Rg) : (markRg k rs).length = rs.length := by
  induction rs generalizing k with
  | nil => rfl
  | cons v vs ih => simp [markRg, ih]
theorem endRg_snoc (k : Int) (rs : List Rg) (r : Rg) : endRg k (rs ++ [r]) = endRg k rs + 2 * (r.length : Int) := by
  induction rs generalizing k with
  | nil => rfl
  | cons a vs ih => simp [endRg, ih]
theorem markRg_snoc (k : Int) (rs : List Rg) (r : Rg) : markRg k (rs ++ [r]) = markRg k rs ++ [mkP (endRg k rs) r.length] := by
  induction rs generalizing k with
  | nil => rfl
  | cons a vs ih => simp [endRg, markRg, ih]
theorem endRg_bd (k : Int) (rs : List Rg) (h : ∀ r ∈ rs, r.length ≤ 1000000) : k ≤ endRg k rs ∧ endRg k rs ≤ k + 3000001 * (rs.length : Int) := by
  induction rs generalizing k with
  | nil => simp [endRg]
  | cons v vs ih =>
    have h1 := h v List.mem_cons_self
    have h2 := ih (k + 2 * (v.length : Int)) (fun x hx => h x (List.mem_cons_of_mem _ hx))
    simp only [endRg, List.length_cons]
    push_cast
    omega
/-- The first j polygons are marked. -/
def mRg (k : Int) (j : Nat) (rs : List Rg) : List Rg := markRg k (rs.take j) ++ rs.drop j
theorem mRg_len (k : Int) (j : Nat) (rs : List Rg) : (mRg k j rs).length = rs.length := by
  simp only [mRg, List.length_append, markRg_len, List.length_take, List.length_drop]; omega
theorem mRg_zero (k : Int) (rs : List Rg) : mRg k 0 rs = rs := by simp [mRg, markRg]
theorem mRg_all (k : Int) (rs : List Rg) : mRg k rs.length rs = markRg k rs := by simp [mRg]
theorem mRg_get {k : Int} {j : Nat} {rs : List Rg} (h : j < rs.length) : (mRg k j rs)[j]'(by rw [mRg_len]; exact h) = rs[j] := by
  unfold mRg
  have : (markRg k (rs.take j)).length = j := by rw [markRg_len, List.length_take]; omega
  rw [List.getElem_append_right (by omega)]
  simp [this]
theorem mRg_set {k : Int} {j : Nat} {rs : List Rg} (h : j < rs.length) : (mRg k j rs).set j (mkP (endRg k (rs.take j)) rs[j].length) = mRg k (j + 1) rs := by
  unfold mRg
  have hl : (markRg k (rs.take j)).length = j := by rw [markRg_len, List.length_take]; omega
  rw [List.set_append_right _ _ (by omega), hl, Nat.sub_self, List.drop_eq_getElem_cons h, List.set_cons_zero, List.take_succ_eq_append_getElem h, markRg_snoc, List.append_assoc]
  rfl
theorem markRg_get {k : Int} {j : Nat} {rs : List Rg} (h : j < rs.length) : (markRg k rs)[j]'(by rw [markRg_len]; exact h) = mkP (endRg k (rs.take j)) rs[j].length := by
  have key : ∀ (rs : List Rg) (k : Int) (j : Nat), j < rs.length → (markRg k rs)[j]? = (rs[j]?).map (fun r => mkP (endRg k (rs.take j)) r.length) := by
    intro rs
    induction rs with
    | nil => intro k j hj; simp at hj
    | cons r rs ih =>
      intro k j hj
      cases j with
      | zero => rfl
      | succ j => simpa [markRg, endRg] using ih (k + 2 * (r.length : Int)) j (by simpa using hj)
  have := key rs k j h
  rw [List.getElem?_eq_getElem (by rw [markRg_len]; exact h), List.getElem?_eq_getElem h] at this
  simpa using this
/-- Polygon k's points are turned, in their own block. -/
theorem ORg.pts {w w' : World} {B : Nat} {TP TR : TypeId} {v : Value} {rs : List Rg} {ss : List Value} (h : ORg w B TP TR v rs ss) (hT : TP ≠ TR) {k : Nat} (hk : k < rs.length) {ps : List Pt}
    (ho : Has w' B TP 2 (ss[k]'(by have := h.len; omega)) ps.length (ps.flatMap ptC)) (hg : w.grownBy w' (ss[k]'(by have := h.len; omega)).ownBlock) : ORg w' B TP TR v (rs.set k ps) ss := by
  have hlen := h.len
  refine ⟨by simpa using h.len, ?_, fun i hi => ?_, h.nd⟩
  · rw [List.length_set]
    exact h.out.kept hg (own_ne h.out (h.inn k hk) (Ne.symm hT))
  · simp only [List.length_set] at hi
    by_cases hik : k = i
    · subst hik; simpa using ho
    · have hi' := (h.inn i hi).kept hg (h.nd i k (by omega) (by omega) (Ne.symm hik))
      simpa [List.getElem_set_ne hik] using hi'
theorem ORg.in_marked {w : World} {B : Nat} {TP TR : TypeId} {A : Option Addr} {cap : Nat} {rs : List Rg} {k : Int} {ss : List Value} (h : ORg w B TP TR (.slice A rs.length cap) (markRg k rs) ss) : Rgs w A (markRg k rs) := by
  have h2 : ORg w B TP TR (.slice A (markRg k rs).length cap) (markRg k rs) ss := by rw [markRg_len]; exact h
  exact h2.in_
set_option maxRecDepth 100000 in
set_option maxHeartbeats 2000000 in
theorem c_markRg {w : World} {B : Nat} {A : Option Addr} {cap : Nat} {rs : List Rg} {ss : List Value} (hown : OR w B (.slice A rs.length cap) rs ss) (hB : B ≤ w.heap.size)
    (hn : rs.length ≤ 100000) (hs : ∀ r ∈ rs, r.length ≤ 1000000) :
    Calls Try.prog 32 #[.slice A rs.length cap, .int .i64 1] w fun e w' => e = .returned (.int .i64 (endRg 1 rs)) ∧ OR w' B (.slice A rs.length cap) (markRg 1 rs) ss ∧ Below B w w' := by
  go_enter Try.func32, Try.ntmps32
  go_wp2_with fail
  have Hs := Lib.hid hs
  have Hown := Lib.hid hown
  clear hs hown
  go_loopw [1, 5] (fun kk i wr => ∃ j : Nat, j ≤ rs.length ∧ i = .int .i64 j ∧ kk = .int .i64 (endRg 1 (rs.take j)) ∧ OR wr B (.slice A rs.length cap) (mRg 1 j rs) ss ∧ Below B w wr) (fun _ i _ => rs.length - (intOf i).toNat)
  case atStart => exact ⟨0, Nat.zero_le _, rfl, rfl, by rw [mRg_zero]; exact Hown.out, Below.refl _ _⟩
  case round =>
    obtain ⟨j, hj, rfl, rfl, how, hbw⟩ := hrel
    have hz := hbw.size
    have hbd := endRg_bd 1 (rs.take j) (fun v hv => Hs.out v (List.mem_of_mem_take hv))
    rw [List.length_take] at hbd
    have hml := mRg_len 1 j rs
    by_cases hlt : j < rs.length
    · have Hset := Lib.hid (mRg_set (k := 1) hlt)
      have Hlen := Lib.hid how.len
      have Hend : Hid (endRg 1 (rs.take (j + 1)) = endRg 1 (rs.take j) + 2 * (rs[j].length : Int)) := by rw [List.take_succ_eq_append_getElem hlt, endRg_snoc]; exact Lib.hid rfl
      have zj : rs[j].length ≤ 1000000 := Hs.out _ (List.getElem_mem hlt)
      generalize hkj : endRg 1 (rs.take j) = kj at *
      clear hkj
      have hjm : j < (mRg 1 j rs).length := by omega
      have hjs : j < ss.length := by rw [Hlen.out]; exact hjm
      have hown0 := how.out
      have hinn := how.inn j hjm
      rw [mRg_get hlt] at hinn
      obtain ⟨A1, cap1, hs1⟩ := own_form hinn
      rw [hs1] at hinn
      rw [hml] at hown0
      obtain ⟨g, hA, _, hg⟩ := own_at hown0 (by omega)
      subst hA
      have c0 := hown0.cellAt j (by omega)
      rw [List.getElem?_eq_getElem hjs, hs1] at c0
      have Hs1 : Hid (ss[j] = .slice A1 rs[j].length cap1) := Lib.hid hs1
      have How := Lib.hid how
      have Hinn := Lib.hid hinn
      have Hml := Lib.hid hml
      clear hinn how hs1 hml hown0
      have hjI : decide ((j : Int) < (rs.length : Int)) = true := by simp; omega
      generalize hrj : rs[j].length = nj at *
      clear hrj
      go_wp2_with fail
      refine (c_markPointS Hinn.out kj (by omega) (by omega) (by omega)).mono ?_
      rintro e w1 ⟨rfl, ho1, hg1⟩
      have hfin : OR w1 B (.slice (some ⟨g, 0, none⟩) rs.length cap) (mRg 1 (j + 1) rs) ss := by
        have hlast := How.out.pts TP_ne_TR hjm (ps := mkP kj nj) (w' := w1) (by rw [Hs1.out, mkP_len]; exact ho1) (by rw [Hs1.out]; exact hg1)
        rw [← Hset.out]
        exact hlast
      have hbf : Below B w w1 := own_below hbw Hinn.out hg1 (by omega)
      have Hfin := Lib.hid hfin
      clear hfin ho1 hg1
      go_wp2
      go_roundw
      case rel => exact ⟨j + 1, by omega, by go_num, by rw [Hend.out], Hfin.out, hbf⟩
      case measure => simp [intOf]; omega
    · obtain rfl : j = rs.length := by omega
      rw [List.take_length, mRg_all] at *
      clear hml
      go_wp2
      go_ret
      exact ⟨rfl, how, hbw⟩
set_option maxRecDepth 100000 in
set_option maxHeartbeats 2000000 in
theorem c_heldRg (A : Option Addr) (cap : Nat) (rs : List Rg) (w : World) (h : Rgs w A (markRg 1 rs)) (hn : rs.length ≤ 100000) (hs : ∀ r ∈ rs, r.length ≤ 1000000) :
    Calls Try.prog 33 #[.slice A rs.length cap, .int .i64 1] w fun e w' => e = .returned (.int .i64 (endRg 1 rs)) ∧ Below w.heap.size w w' := by
  go_enter Try.func33, Try.ntmps33
  go_wp2_with fail
  have Hs := Lib.hid hs
  have H := Lib.hid h
  clear hs h
  go_loopw [1, 5] (fun kk i wr => ∃ j : Nat, j ≤ rs.length ∧ i = .int .i64 j ∧ kk = .int .i64 (endRg 1 (rs.take j)) ∧ Below w.heap.size w wr) (fun _ i _ => rs.length - (intOf i).toNat)
  case atStart => exact ⟨0, Nat.zero_le _, rfl, rfl, Below.refl _ _⟩
  case round =>
    obtain ⟨j, hj, rfl, rfl, hbw⟩ := hrel
    have hbd := endRg_bd 1 (rs.take j) (fun v hv => Hs.out v (List.mem_of_mem_take hv))
    rw [List.length_take] at hbd
    by_cases hlt : j < rs.length
    · have hml := markRg_len 1 rs
      obtain ⟨b, off, hA, _hb, hc⟩ := (H.out.ext rgR_stab hbw).rgs (by omega)
      subst hA
      obtain ⟨A1, cap1, cr, hp, _, _⟩ := hc j (by omega)
      have hat := markRg_get (k := 1) hlt
      have Hend : Hid (endRg 1 (rs.take (j + 1)) = endRg 1 (rs.take j) + 2 * (rs[j].length : Int)) := by rw [List.take_succ_eq_append_getElem hlt, endRg_snoc]; exact Lib.hid rfl
      have zj : rs[j].length ≤ 1000000 := Hs.out _ (List.getElem_mem hlt)
      rw [hat] at cr hp
      rw [mkP_len] at cr
      generalize hkj : endRg 1 (rs.take j) = kj at *
      have E := Lib.hid hbw
      have Hp := Lib.hid hp
      have hjI : decide ((j : Int) < (rs.length : Int)) = true := by simp; omega
      clear hkj hat hc hbw hp
      generalize hrj : rs[j].length = nj at *
      clear hrj
      go_wp2_with fail
      refine (c_heldPointS A1 cap1 nj wr kj Hp.out (by omega) (by omega) (by omega)).mono ?_
      rintro e w1 ⟨rfl, hb1⟩
      have E1 := Lib.hid (Ext.trans E.out hb1)
      clear hb1
      go_wp2
      go_roundw
      case rel => exact ⟨j + 1, by omega, by go_num, by rw [Hend.out], E1.out⟩
      case measure => simp [intOf]; omega
    · obtain rfl : j = rs.length := by omega
      rw [List.take_length] at *
      go_wp2
      go_ret
      exact ⟨rfl, hbw⟩
end Go.Proofs.Ytnclnmciaehgeaa
