/-
  Polygons given: their sizes, copies of them, and whether they are the same.
-/
import Derived.Test.YteknlifgejpjfaaRings
import Derived.Test.YteknlifgejpjfaaOrg
namespace Go.Proofs.Yteknlifgejpjfaa
open Go Go.RowKit Go.ChangeShapes Go.WideShapes Go.ChangeAt Go.Deep Reg
attribute [local go_sem] calmAt calmUpon
theorem rows_pts {w : World} {b : Nat} {e : TypeId} {ps : List Pt} (h : Row w b e (ps.flatMap ptC)) : Pts w (some ⟨b, 0, none⟩) ps := Row.in_ (rest := []) (enc := ptC) ptC_len (by simpa using h) (fun _ _ => rfl)
abbrev nilS : Value := .slice none 0 0
/-- The first of these polygons lie copied, in blocks of their own behind b. -/
structure Copd (w : World) (b : Nat) (TP TR : TypeId) (rs : List Rg) (us : List Value) : Prop where
  le : us.length ≤ rs.length
  row : Row w b TR (us ++ List.replicate (rs.length - us.length) nilS)
  inn : ∀ (i : Nat) (h : i < us.length), ∃ g, us[i] = .slice (some ⟨g, 0, none⟩) (rs[i]'(by omega)).length (rs[i]'(by omega)).length ∧ b < g ∧ Row w g TP ((rs[i]'(by omega)).flatMap ptC)
  nd : ∀ (i j : Nat) (hi : i < us.length) (hj : j < us.length), i < j → us[i].ownBlock ≠ us[j].ownBlock
section
variable {w w' : World} {b : Nat} {TP TR : TypeId} {rs : List Rg} {us : List Value}
theorem Copd.ext (h : Copd w b TP TR rs us) (hx : Ext w w') : Copd w' b TP TR rs us := ⟨h.le, h.row.ext hx, fun i hi => by
  obtain ⟨g, h1, h2, h3⟩ := h.inn i hi; exact ⟨g, h1, h2, h3.ext hx⟩, h.nd⟩
theorem Copd.old (h : Copd w b TP TR rs us) : ∀ (i : Nat) (hi : i < us.length) g, us[i].ownBlock = some g → g < w.heap.size := fun i hi g hg => by
  obtain ⟨g', h1, _, h3⟩ := h.inn i hi
  rw [h1] at hg
  have : g' = g := by simpa [Value.ownBlock] using hg
  subst this; exact h3.lt
theorem set_app (us : List Value) (n : Nat) (s z : Value) : (us ++ List.replicate (n + 1) z).set us.length s = (us ++ [s]) ++ List.replicate n z := by
  simp [List.replicate_succ]
theorem Copd.push (h : Copd w b TP TR rs us) (hk : us.length < rs.length) {g : Nat} (hg : b < g) (hge : ∀ (i : Nat) (hi : i < us.length) g', us[i].ownBlock = some g' → g' < g) (hr : Row w g TP (rs[us.length].flatMap ptC)) :
    Copd (w.setCell ⟨b, us.length, none⟩ (.slice (some ⟨g, 0, none⟩) rs[us.length].length rs[us.length].length)) b TP TR rs (us ++ [.slice (some ⟨g, 0, none⟩) rs[us.length].length rs[us.length].length]) := by
  refine ⟨by simp; omega, ?_, fun i hi => ?_, fun i j hi hj hij => ?_⟩
  · have := h.row.set_ us.length (.slice (some ⟨g, 0, none⟩) rs[us.length].length rs[us.length].length)
    have e : rs.length - us.length = (rs.length - (us.length + 1)) + 1 := by omega
    rw [e, set_app] at this
    rw [List.length_append]
    exact this
  · simp only [List.length_append, List.length_cons, List.length_nil] at hi
    rcases Nat.lt_or_ge i us.length with hlt | hge
    · obtain ⟨g', h1, h2, h3⟩ := h.inn i hlt
      exact ⟨g', by rw [List.getElem_append_left hlt]; exact h1, h2, h3.far (by show g' ≠ b; omega) _⟩
    · obtain rfl : i = us.length := by omega
      exact ⟨g, by simp, hg, hr.far (by show g ≠ b; omega) _⟩
  · simp only [List.length_append, List.length_cons, List.length_nil] at hi hj
    rw [List.getElem_append_left (show i < us.length by omega)]
    rcases Nat.lt_or_ge j us.length with hlt | hge2
    · rw [List.getElem_append_left hlt]; exact h.nd i j (by omega) hlt hij
    · obtain rfl : j = us.length := by omega
      obtain ⟨g', h1, _, _⟩ := h.inn i (by omega)
      have h2 : us[i].ownBlock = some g' := by rw [h1]; rfl
      have h3 := hge i (by omega) g' h2
      rw [h2]
      intro he
      have : g' = g := by simpa [Value.ownBlock] using he
      omega
theorem Copd.rgs (h : Copd w b TP TR rs us) (hl : us.length = rs.length) (hs : ∀ r ∈ rs, r.length ≤ 1000000000) : Rgs w (some ⟨b, 0, none⟩) rs := by
  intro _
  refine ⟨b, 0, rfl, fun k hk => ?_⟩
  obtain ⟨g, h1, _, h3⟩ := h.inn k (by omega)
  have hb := hs _ (List.getElem_mem hk)
  refine ⟨[us[k]], ⟨some ⟨g, 0, none⟩, rs[k].length, by rw [h1], rows_pts h3, by unfold maxLen; omega, Nat.le_refl _, by unfold maxLen; omega, fun hh => by cases hh⟩, rfl, fun j u hu => ?_⟩
  have hj : j = 0 := by
    have := (List.getElem?_eq_some_iff.1 hu).1
    simp at this; omega
  subst hj
  simp at hu; subst hu
  rw [Nat.zero_add, Nat.mul_one, Nat.add_zero, h.row.cell k, List.getElem?_append_left (by omega), List.getElem?_eq_getElem (by omega)]
end
set_option maxRecDepth 100000 in
set_option maxHeartbeats 2000000 in
theorem c_szPointSS (A : Option Addr) (cap : Nat) (rs : List Rg) (w : World) (h : Rgs w A rs) (hl : rs.length ≤ 9223372036854775807) :
    Calls Try.prog 5 #[.slice A rs.length cap, .int .i64 1048576] w fun e w' => ∃ m : Int, e = .returned (.int .i64 m) ∧ (0 ≤ m → (rs.length ≤ 1048576 ∧ corners rs ≤ 1048576) ∧ ∀ r ∈ rs, r.length ≤ 1048576) ∧ Below w.heap.size w w' := by
  have H := Lib.hid h
  clear h
  by_cases hn : (1048576 : Int) - rs.length < 0
  · go_enter Try.func5, Try.ntmps5
    go_wp2
    go_ret
    exact ⟨-1, rfl, fun h => by omega, Below.refl _ _⟩
  · go_enter Try.func5, Try.ntmps5
    go_wp2_with fail
    go_loopw [1, 5] (fun l i wr => ∃ (k : Nat) (m : Int), k ≤ rs.length ∧ i = .int .i64 k ∧ l = .int .i64 m ∧ 0 ≤ m ∧ m + corners (rs.take k) ≤ 1048576 ∧ (∀ r ∈ rs.take k, r.length ≤ 1048576) ∧ Ext w wr) (fun _ i _ => rs.length - (intOf i).toNat)
    case atStart => exact ⟨0, _, Nat.zero_le _, rfl, rfl, by omega, by simp [corners]; omega, fun r hr => by simp at hr, Below.refl _ _⟩
    case round =>
      obtain ⟨k, m, hk, rfl, rfl, hm0, hm1, hal, hbw⟩ := hrel
      have E := Lib.hid hbw
      have Hal := Lib.hid hal
      clear hbw hal
      by_cases hlt : k < rs.length
      · obtain ⟨b, off, hA, _, hc⟩ := (H.out.ext rgR_stab E.out).rgs (by omega)
        obtain ⟨A', cap', cr, hp, hle, hmx⟩ := hc k hlt
        have Hal2 : Hid (rs[k].length ≤ 1048576 → ∀ r ∈ rs.take (k + 1), r.length ≤ 1048576) := Lib.hid (fun h1 r hr => by
          rw [List.take_succ_eq_append_getElem hlt] at hr
          rcases List.mem_append.1 hr with hr | hr
          · exact Hal.out r hr
          · simp at hr; subst hr; exact h1)
        have hct := corners_take hlt
        clear hc hp
        generalize rs[k] = r at *
        subst hA
        by_cases hd : m - (r.length : Int) < 0
        · have hv : (if m - (r.length : Int) < 0 then (-1 : Int) else m - r.length) = -1 := if_pos hd
          have Hv := Lib.hid hv
          clear hv
          go_wp2_with fail
          refine (c_szPointS A' r.length cap' m wr hm0 (by omega) (by omega)).mono ?_; rw [Hv.out]; rintro e w0 ⟨rfl, rfl⟩
          go_wp2
          go_ret
          exact ⟨-1, rfl, fun h => by omega, E.out⟩
        · have hv : (if m - (r.length : Int) < 0 then (-1 : Int) else m - r.length) = m - r.length := if_neg hd
          have Hv := Lib.hid hv
          clear hv
          go_wp2_with fail
          refine (c_szPointS A' r.length cap' m wr hm0 (by omega) (by omega)).mono ?_; rw [Hv.out]; rintro e w0 ⟨rfl, rfl⟩
          go_wp2
          go_roundw
          case rel => exact ⟨k + 1, m - r.length, by omega, by go_num, rfl, by omega, by omega, Hal2.out (by omega), E.out⟩
          case measure => simp [intOf]; omega
      · have hk' : k = rs.length := by omega
        have Hf : Hid (∀ r ∈ rs, r.length ≤ 1048576) := Lib.hid (by have := Hal.out; rw [hk', List.take_length] at this; exact this)
        go_wp2
        go_ret
        rw [hk', List.take_length] at hm1
        exact ⟨m, rfl, fun _ => ⟨⟨by omega, by omega⟩, Hf.out⟩, E.out⟩
set_option maxRecDepth 100000 in
set_option maxHeartbeats 2000000 in
theorem c_toPointSS (A : Option Addr) (cap : Nat) (rs : List Rg) (w : World) (h : Rgs w A rs) (hl : rs.length ≤ 1048576) (hs : ∀ r ∈ rs, r.length ≤ 1048576) :
    Calls Try.prog 7 #[.slice A rs.length cap] w fun e w' => ∃ b us, e = .returned (.slice (some ⟨b, 0, none⟩) rs.length rs.length) ∧ w.heap.size ≤ b ∧ us.length = rs.length ∧ Copd w' b 58 42 rs us ∧ Below w.heap.size w w' := by
  have H := Lib.hid h
  have Hs := Lib.hid hs
  have hmk := fun W => run_make_fill ei_rg (fun _ => [nilS]) rs (by omega) W
  have hz : fillC (fun _ : Rg => [nilS]) [nilS] rs 0 = [] ++ List.replicate (rs.length - 0) nilS := by simp [fillC]
  have Hz := Lib.hid hz
  clear h hs hz
  go_enter Try.func7, Try.ntmps7
  go_wp2_with fail
  go_loopw [4] (fun i wr => ∃ (k : Nat) (us : List Value), us.length = k ∧ i = .int .i64 k ∧ Copd wr w.heap.size 58 42 rs us ∧ Ext w wr) (fun i _ => rs.length - (intOf i).toNat)
  case atStart => exact ⟨0, [], rfl, rfl, ⟨Nat.zero_le _, by have := Row.new w 42 (fillC (fun _ : Rg => [nilS]) [nilS] rs 0); rw [Hz.out] at this ⊢; exact this, fun i hi => by simp at hi, fun i j hi => by simp at hi⟩, ext_alloc _ _⟩
  case round =>
    obtain ⟨k, us, hu, rfl, hcp, hbw⟩ := hrel
    have E := Lib.hid hbw
    have C := Lib.hid hcp
    have hkl := hcp.le
    clear hbw hcp hmk
    by_cases hlt : k < rs.length
    · obtain ⟨b, off, hA, _, hc⟩ := (H.out.ext rgR_stab E.out).rgs (by omega)
      obtain ⟨A', cap', cr, hp, hle, hmx⟩ := hc k hlt
      have Hp := Lib.hid hp
      have h2 := Hs.out _ (List.getElem_mem hlt)
      have Hpush : Hid (∀ W g, Copd W w.heap.size 58 42 rs us → w.heap.size < g → (∀ (i : Nat) (hi : i < us.length) g', us[i].ownBlock = some g' → g' < g) → Row W g 58 (rs[k].flatMap ptC) → Copd (W.setCell ⟨w.heap.size, k, none⟩ (.slice (some ⟨g, 0, none⟩) rs[k].length rs[k].length)) w.heap.size 58 42 rs (us ++ [.slice (some ⟨g, 0, none⟩) rs[k].length rs[k].length])) := Lib.hid (fun W g hC hg hge hr => by
        subst hu; exact hC.push hlt hg hge hr)
      have Hold := Lib.hid C.out.old
      have hzz : w.heap.size < wr.heap.size := C.out.row.lt
      clear hc hp
      generalize rs[k] = r at *
      subst hA
      go_wp2_with fail
      refine (c_toPointS A' cap' r wr Hp.out h2).mono ?_
      rintro e w1 ⟨g, rfl, hg, hr1, hb1⟩
      have C1 := Lib.hid (C.out.ext hb1)
      have E1 := Lib.hid (Ext.trans E.out hb1)
      have R1 := Lib.hid hr1
      have c0 : w1.cell? ⟨w.heap.size, k, none⟩ = some nilS := by
        rw [C1.out.row.cell k, List.getElem?_append_right (by omega), hu, Nat.sub_self, List.getElem?_replicate, if_pos (by omega)]
      have f0 := C1.out.row.frozen k
      clear hr1 hb1
      go_wp2
      go_roundw
      case rel => exact ⟨k + 1, _, by simp [hu], by go_num, Hpush.out _ _ C1.out (by omega) (fun i hi g' hg' => by have := Hold.out i hi g' hg'; omega) R1.out, E1.out.setCell (Nat.le_refl _) _⟩
      case measure => simp [intOf]; omega
    · obtain rfl : k = rs.length := by omega
      go_wp2
      go_ret
      exact ⟨_, us, rfl, Nat.le_refl _, hu, C.out, E.out⟩
set_option maxRecDepth 100000 in
set_option maxHeartbeats 2000000 in
theorem c_eqPointSS (A1 A2 : Option Addr) (cap1 cap2 : Nat) (rs : List Rg) (w : World) (h1 : Rgs w A1 rs) (h2 : Rgs w A2 rs) (hl : rs.length ≤ 1048576) (hs : ∀ r ∈ rs, r.length ≤ 1048576) :
    Calls Try.prog 10 #[.slice A1 rs.length cap1, .slice A2 rs.length cap2] w fun e w' => e = .returned (.bool true) ∧ Below w.heap.size w w' := by
  have H := Lib.hid h1
  have H2 := Lib.hid h2
  have Hs := Lib.hid hs
  clear h1 h2 hs
  go_enter Try.func10, Try.ntmps10
  go_wp2_with fail
  go_loopw [5] (fun i wr => ∃ (k : Nat), k ≤ rs.length ∧ i = .int .i64 k ∧ Ext w wr) (fun i _ => rs.length - (intOf i).toNat)
  case atStart => exact ⟨0, Nat.zero_le _, rfl, Below.refl _ _⟩
  case round =>
    obtain ⟨k, hk, rfl, hbw⟩ := hrel
    have E := Lib.hid hbw
    clear hbw
    by_cases hlt : k < rs.length
    · obtain ⟨b, off, hA, _, hc⟩ := (H.out.ext rgR_stab E.out).rgs (by omega)
      obtain ⟨b2, off2, hA2, _, hc2⟩ := (H2.out.ext rgR_stab E.out).rgs (by omega)
      obtain ⟨A', cap', cr, hp, _, _⟩ := hc k hlt
      obtain ⟨A'', cap'', cr2, hp2, _, _⟩ := hc2 k hlt
      have h3 := Hs.out _ (List.getElem_mem hlt)
      have P1 := Lib.hid hp
      have P2 := Lib.hid hp2
      have Cr := Lib.hid cr
      have Cr2 := Lib.hid cr2
      clear hc hp hc2 hp2 cr cr2
      generalize rs[k] = r at *
      have K : Hid (∀ W, Pts W A' r → Pts W A'' r → Calls Try.prog 28 #[.slice A' r.length cap', .slice A'' r.length cap''] W fun e w' => e = .returned (.bool true) ∧ Below W.heap.size W w') := Lib.hid (fun W hW hW2 => by
        have := c_eqPointS A' A'' cap' cap'' r r W hW hW2 (by omega) (by omega)
        rw [decide_eq_true (rfl : r = r)] at this
        exact this)
      subst hA hA2
      have cr := Cr.out
      have cr2 := Cr2.out
      go_wp2_with fail
      refine wp_region_calm [0,1,2,3,4,5,6,7,8,9] [] (by kernel_rfl) (by kernel_rfl) ?_
      (refine calm_yes rfl rfl (fun w' hC => (by have cr := hC.cell cr; have cr2 := hC.cell cr2; go_simp; rfl)) (fun K hK => ?_); go_simp; refine hK _ ?_; clear hK K)
      (refine calm_yes rfl rfl (fun w' hC => (by have cr := hC.cell cr; have cr2 := hC.cell cr2; go_simp; rfl)) (fun K hK => ?_); go_simp; refine hK _ ?_; clear hK K)
      (refine calm_yes rfl rfl (fun w' hC => (by have cr := hC.cell cr; have cr2 := hC.cell cr2; go_simp; rfl)) (fun K hK => ?_); go_simp; refine hK _ ?_; clear hK K)
      (refine calm_yes rfl rfl (fun w' hC => (by have cr := hC.cell cr; have cr2 := hC.cell cr2; go_simp; rfl)) (fun K hK => ?_); go_simp; refine hK _ ?_; clear hK K)
      (refine calm_yes rfl rfl (fun w' hC => (by have cr := hC.cell cr; have cr2 := hC.cell cr2; go_simp; rfl)) (fun K hK => ?_); go_simp; refine hK _ ?_; clear hK K)
      (refine calm_yes rfl rfl (fun w' hC => (by have cr := hC.cell cr; have cr2 := hC.cell cr2; go_simp; rfl)) (fun K hK => ?_); go_simp; refine hK _ ?_; clear hK K)
      (refine calm_yes rfl rfl (fun w' hC => (by have cr := hC.cell cr; have cr2 := hC.cell cr2; go_simp; rfl)) (fun K hK => ?_); go_simp; refine hK _ ?_; clear hK K)
      (refine calm_yes rfl rfl (fun w' hC => (by have cr := hC.cell cr; have cr2 := hC.cell cr2; go_simp; rfl)) (fun K hK => ?_); go_simp; refine hK _ ?_; clear hK K)
      (apply calm_call rfl rfl rfl Try.func28 (by kernel_rfl) rfl (by go_simp; rfl); exact (fun w' hC => K.out w' (P1.out.ext ptR_stab (ext_cls hC)) (P2.out.ext ptR_stab (ext_cls hC))); intro K hK; go_simp; refine hK _ ?_; clear hK K)
      (refine calm_yes rfl rfl (fun w' hC => (by have cr := hC.cell cr; have cr2 := hC.cell cr2; go_simp; rfl)) (fun K hK => ?_); go_simp; refine hK _ ?_; clear hK K)
      refine calm_done (fun w1 hb => ?_)
      clear cr cr2
      replace E := Lib.hid (Ext.trans E.out hb)
      replace P1 := Lib.hid (P1.out.ext ptR_stab hb)
      replace P2 := Lib.hid (P2.out.ext ptR_stab hb)
      replace Cr := Lib.hid (Cls.cell hb Cr.out)
      replace Cr2 := Lib.hid (Cls.cell hb Cr2.out)
      clear hb
      have cCr := Cr.out
      have cCr2 := Cr2.out
      go_wp2
      go_roundw
      case rel => exact ⟨k + 1, by omega, by go_num, E.out⟩
      case measure => simp [intOf]; omega
    · have hk' : ¬ ((k : Int) < (rs.length : Int)) := by omega
      go_wp2
      go_ret
      exact ⟨rfl, E.out⟩
end Go.Proofs.Yteknlifgejpjfaa
