/-
  All points of polygons: the walks.
-/
import Derived.Lib.AppendZerosOnto
import Derived.Test.YtagmnbphbakikaaGreatMg8
import Derived.Test.YtagmnbphbakikaaGreatMg1
namespace Go.Proofs.YtagmnbphbakikaaGreat
open Go Go.RowKit Reg
attribute [local go_sem] calmAt calmUpon
theorem flatten_len (rs : List Rg) : rs.flatten.length = corners rs := by simp [corners, List.length_flatten]
set_option maxRecDepth 100000 in
set_option maxHeartbeats 4000000 in
theorem c_corners (A : Option Addr) (cap : Nat) (rs : List Rg) (w : World) (h : Rgs w A rs) (hl : rs.length ≤ 1000) (hc : corners rs ≤ 1000000) :
    Calls Tryz.prog 110 #[.slice A rs.length cap] w fun e w' => ∃ A' cap', e = .returned (.slice A' rs.flatten.length cap') ∧ Has w' w.heap.size 45 2 (.slice A' rs.flatten.length cap') rs.flatten.length (rs.flatten.flatMap ptC) ∧ Below w.heap.size w w' := by
  have H := Lib.hid h
  have Hc := Lib.hid hc
  obtain ⟨F, hF⟩ : ∃ F, rs.flatten = F := ⟨_, rfl⟩
  rw [hF]
  have HF := Lib.hid hF
  have E := Lib.hid (Below.refl w.heap.size w)
  clear h hc hF
  go_enter Tryz.func110, Tryz.ntmps110
  go_wp2_with fail
  first | refine gen_calls ?_ | refine gen_code ?_ | refine gen_list ?_
  intro w1 hW
  obtain ⟨hb, hR1⟩ := new1 hW
  clear hW
  replace E := Lib.hid (Ext.trans E.out hb)
  clear hb
  have R1 := Lib.hid hR1
  have lR1 := R1.out.lt
  clear hR1
  have O := Lib.hid (own_of_row (n := 0) (B := w.heap.size) (sz := 2) R1.out (Nat.le_refl _) rfl (by decide))
  go_loopw [3, 4] (fun v i wr => ∃ (k : Nat) (A1 : Option Addr) (cap1 : Nat) (out : List Pt), k ≤ rs.length ∧ i = .int .i64 k ∧ v = .slice A1 out.length cap1 ∧ out = (rs.take k).flatten ∧ Has wr w.heap.size 45 2 (.slice A1 out.length cap1) out.length (out.flatMap ptC) ∧ Below w.heap.size w wr) (fun _ i _ => rs.length - (intOf i).toNat)
  case atStart => exact ⟨0, _, 0, [], Nat.zero_le _, rfl, rfl, by simp, O.out, E.out⟩
  case round =>
    obtain ⟨k, A1, cap1, out, hk, rfl, rfl, hout, how, hbw⟩ := hrel
    clear O E R1 lR1
    have O := Lib.hid how
    have E := Lib.hid hbw
    have Hout := Lib.hid hout
    have hzr : w.heap.size ≤ wr.heap.size := hbw.size
    clear how hbw hout
    by_cases hlt : k < rs.length
    · obtain ⟨b, off, hA, hbw0, hc⟩ := H.out.rgs (by omega)
      have hbo : b < wr.heap.size := by omega
      subst hA
      obtain ⟨A', cap', cr, hp, hle, hmx⟩ := hc k hlt
      have Hn : Hid (out ++ rs[k] = (rs.take (k + 1)).flatten) := Lib.hid (by rw [Hout.out, List.take_succ_eq_append_getElem hlt, List.flatten_append]; simp)
      have hlen : out.length + rs[k].length ≤ 1000000 := by
        have h1 := Hc.out
        have h2 : corners (rs.take (k + 1)) ≤ corners rs := by
          conv => rhs; rw [← List.take_append_drop (k + 1) rs]
          rw [corners_append]; omega
        rw [← flatten_len, ← Hn.out, List.length_append] at h2; omega
      have Hp := Lib.hid hp
      have Cr := Lib.hid cr
      clear hc hp cr
      generalize rs[k] = r at *
      have cCr := Cls.cell E.out Cr.out
      go_wp2_with (at_builtin; refine wpList_app (base := w.heap.size) ei_pt rfl (.tmp 12) (.tmp 16) rfl rfl O.out rfl ((Hp.out.ext ptR_stab E.out).src ptC_len (fun x us h => h) ptC_one (by decide)) (by omega) hzr ?_; intro ve we hown hg hat; refine stop_in ?_)
      refine stop_out ?_
      clear cCr
      obtain ⟨A3, cap3, hve⟩ := own_form hown
      have O3 : Hid (Has we w.heap.size 45 2 (.slice A3 (out ++ r).length cap3) (out ++ r).length ((out ++ r).flatMap ptC)) := Lib.hid (by
        rw [hve] at hown; rw [List.length_append, List.flatMap_append]; exact hown)
      have hve' : ve = .slice A3 (out ++ r).length cap3 := by rw [hve, List.length_append]
      have E3 := Lib.hid (own_below E.out O.out hg hzr)
      clear hown hg hat hve
      subst hve'
      go_wp2
      go_roundw
      case rel => exact ⟨k + 1, A3, cap3, _, by omega, by go_num, rfl, Hn.out, O3.out, E3.out⟩
      case measure => simp [intOf]; omega
    · have hk' : k = rs.length := by omega
      have Hf : Hid (out = F) := Lib.hid (by rw [Hout.out, hk', List.take_length, HF.out])
      clear hk'
      go_wp2
      go_ret
      exact ⟨A1, cap1, ret_sl (by rw [Hf.out]), by rw [← Hf.out]; exact O.out, E.out⟩
set_option maxRecDepth 100000 in
set_option maxHeartbeats 4000000 in
theorem c_GrowNil (n : Nat) (w : World) (hn : n ≤ 1000000) :
    Calls Tryz.prog 165 #[.slice none 0 0, .int .i64 n] w fun e w' => ∃ A cap, e = .returned (.slice A 0 cap) ∧ Has w' w.heap.size 45 2 (.slice A 0 cap) 0 [] ∧ Below w.heap.size w w' := by
  rcases Nat.eq_zero_or_pos n with h0 | h0
  · subst h0
    go_enter Tryz.func165, Tryz.ntmps165
    go_wp2
    go_ret
    exact ⟨none, 0, rfl, own_nil _ _ _ _, Below.refl _ _⟩
  · obtain ⟨i, h1, h2, h3, h4⟩ := ei_pt.info
    have h3' : i.size = 2 := h3
    have hold : (Builtin.firstCells i.size 0 (.slice none 0 0)).run Tryz.prog w.drew = .ok (#[] : Array Value) w.drew := run_firstCells_none w.drew i.size 0 0 0
    have hr := fun ty => Lib.run_append_grow_zeros (P := Tryz.prog) w 126 3 ty 45 i _ .i64 .i64 ei_pt.und (by kernel_rfl) h1 h2 none 0 0 [] (by simpa using hold) n h0 (by omega) (by omega) (by omega) (by rw [h4]; omega) (growslice_fits (by omega) (by rw [h4]; omega))
    have hge := grownCap_ge w (0 + n) 0 45
    have hmx := grownCap_le_maxLen w (0 + n) 0 45 (by simp only [maxLen]; omega)
    obtain ⟨G, hG⟩ : ∃ G, grownCap w (0 + n) 0 45 = G := ⟨_, rfl⟩
    rw [hG] at hr hge hmx
    simp only [Nat.zero_add] at hr hge
    have hmx2 := hmx
    unfold maxLen at hmx2
    have hnI : decide ((0 : Int) < (n : Int)) = true := by simp; omega
    have hnI2 : ¬ (n : Int) < 0 := by omega
    have hsz : n * 2 + (G - n) * 2 = G * 2 := by omega
    clear hold hG
    go_enter Tryz.func165, Tryz.ntmps165
    go_wp2_with (at_builtin; refine Lib.wpList_append_run _ rfl _ _ _ _ rfl _ _ rfl rfl _ _ (hr _) ?_; refine stop_in ?_)
    refine stop_out ?_
    refine gen_list (fun W hW => ?_)
    have hO : Has W w.heap.size 45 2 (.slice (some ⟨w.heap.size, 0, none⟩) 0 G) 0 [] := by
      refine ⟨rfl, .inr ⟨w.heap.size, G, _, rfl, Nat.le_refl _, by rw [hW]; exact heap_alloc_new w _, Nat.zero_le _, hmx, ?_, by simp⟩⟩
      simp [size_zeroCells]
      omega
    have hE : Below w.heap.size w W := by rw [hW]; exact ((Below.refl _ w).alloc (Nat.le_refl _) _).drew
    have HO := Lib.hid hO
    have HE := Lib.hid hE
    clear hW hO hE hr
    go_wp2
    go_ret
    exact ⟨some ⟨w.heap.size, 0, none⟩, G, rfl, HO.out, HE.out⟩
set_option maxRecDepth 100000 in
set_option maxHeartbeats 4000000 in
theorem c_Concat (A : Option Addr) (cap : Nat) (rs : List Rg) (w : World) (h : Rgs w A rs) (hl : rs.length ≤ 1000) (hc : corners rs ≤ 1000000) :
    Calls Tryz.prog 127 #[.slice A rs.length cap] w fun e w' => ∃ A' cap', e = .returned (.slice A' rs.flatten.length cap') ∧ Has w' w.heap.size 45 2 (.slice A' rs.flatten.length cap') rs.flatten.length (rs.flatten.flatMap ptC) ∧ Below w.heap.size w w' := by
  have H := Lib.hid h
  have Hc := Lib.hid hc
  obtain ⟨F, hF⟩ : ∃ F, rs.flatten = F := ⟨_, rfl⟩
  rw [hF]
  have HF := Lib.hid hF
  clear h hc hF
  go_enter Tryz.func127, Tryz.ntmps127
  go_wp2_with fail
  go_loop [3, 5, 11] (fun s _ i => ∃ k : Nat, k ≤ rs.length ∧ i = .int .i64 k ∧ s = .int .i64 (corners (rs.take k) : Nat)) (fun _ _ i => rs.length - (intOf i).toNat)
  case atStart => exact ⟨0, Nat.zero_le _, rfl, by simp [corners]⟩
  case round =>
    obtain ⟨k, hk, rfl, rfl⟩ := hrel
    have hcb : corners (rs.take k) ≤ 1000000 := by
      have h1 := Hc.out
      have h2 : corners rs = corners (rs.take k) + corners (rs.drop k) := by rw [← corners_append, List.take_append_drop]
      omega
    by_cases hlt : k < rs.length
    · obtain ⟨b, off, hA, _, hc⟩ := H.out.rgs (by omega)
      subst hA
      obtain ⟨A', cap', cr, hp, hle, hmx⟩ := hc k hlt
      have hcs := Lib.hid (corners_take hlt)
      have hcb2 : corners (rs.take k) + rs[k].length ≤ 1000000 := by
        have h1 := Hc.out
        have h2 : corners rs = corners (rs.take (k + 1)) + corners (rs.drop (k + 1)) := by rw [← corners_append, List.take_append_drop]
        have := hcs.out
        omega
      clear hc hp
      generalize rs[k] = r at *
      have hkI : (k : Int) < (rs.length : Int) := by omega
      have hkI2 : decide ((k : Int) < (rs.length : Int)) = true := by simp; omega
      have hneg : ¬ ((corners (rs.take k) : Nat) : Int) + (r.length : Int) < 0 := by omega
      go_wp2
      go_round
      case rel => exact ⟨k + 1, by omega, by go_num, by rw [hcs.out]; go_num⟩
      case measure => simp [intOf]; omega
    · obtain rfl : k = rs.length := by omega
      have hge : decide ((rs.length : Int) < (rs.length : Int)) = false := by simp
      rw [List.take_length] at hcb ⊢
      obtain ⟨C, hC⟩ : ∃ C, corners rs = C := ⟨_, rfl⟩
      rw [hC] at hcb ⊢
      have HC := Lib.hid hC
      clear hC
      go_wp2_with fail
      refine (c_GrowNil C w hcb).mono ?_
      rintro e w1 ⟨A1, cap1, rfl, ho, hb⟩
      have O := Lib.hid ho
      have E := Lib.hid hb
      clear ho hb
      go_wp2_with fail
      clear hge
      go_loopw [6, 8, 27] (fun v _ i wr => ∃ (k : Nat) (A1 : Option Addr) (cap1 : Nat) (out : List Pt), k ≤ rs.length ∧ i = .int .i64 k ∧ v = .slice A1 out.length cap1 ∧ out = (rs.take k).flatten ∧ Has wr w.heap.size 45 2 (.slice A1 out.length cap1) out.length (out.flatMap ptC) ∧ Below w.heap.size w wr) (fun _ _ i _ => rs.length - (intOf i).toNat)
      case atStart => exact ⟨0, A1, cap1, [], Nat.zero_le _, rfl, rfl, by simp, O.out, E.out⟩
      case round =>
        obtain ⟨k, A1, cap1, out, hk, rfl, rfl, hout, how, hbw⟩ := hrel
        clear O E
        have O := Lib.hid how
        have E := Lib.hid hbw
        have Hout := Lib.hid hout
        have hzr : w.heap.size ≤ wr.heap.size := hbw.size
        clear how hbw hout
        by_cases hlt : k < rs.length
        · obtain ⟨b, off, hA, hbw0, hc⟩ := H.out.rgs (by omega)
          have hbo : b < wr.heap.size := by omega
          subst hA
          obtain ⟨A', cap', cr, hp, hle, hmx⟩ := hc k hlt
          have Hn : Hid (out ++ rs[k] = (rs.take (k + 1)).flatten) := Lib.hid (by rw [Hout.out, List.take_succ_eq_append_getElem hlt, List.flatten_append]; simp)
          have hlen : out.length + rs[k].length ≤ 1000000 := by
            have h1 := Hc.out
            have h2 : corners (rs.take (k + 1)) ≤ corners rs := by
              conv => rhs; rw [← List.take_append_drop (k + 1) rs]
              rw [corners_append]; omega
            rw [← flatten_len, ← Hn.out, List.length_append] at h2; omega
          have Hp := Lib.hid hp
          have Cr := Lib.hid cr
          have hkI : (k : Int) < (rs.length : Int) := by omega
          have hkI2 : decide ((k : Int) < (rs.length : Int)) = true := by simp; omega
          clear hc hp cr
          generalize rs[k] = r at *
          have cCr := Cls.cell E.out Cr.out
          go_wp2_with (at_builtin; refine wpList_app (base := w.heap.size) ei_pt rfl (.tmp 31) (.tmp 32) rfl rfl O.out rfl ((Hp.out.ext ptR_stab E.out).src ptC_len (fun x us h => h) ptC_one (by decide)) (by omega) hzr ?_; intro ve we hown hg hat; refine stop_in ?_)
          refine stop_out ?_
          clear cCr
          obtain ⟨A3, cap3, hve⟩ := own_form hown
          have O3 : Hid (Has we w.heap.size 45 2 (.slice A3 (out ++ r).length cap3) (out ++ r).length ((out ++ r).flatMap ptC)) := Lib.hid (by
            rw [hve] at hown; rw [List.length_append, List.flatMap_append]; exact hown)
          have hve' : ve = .slice A3 (out ++ r).length cap3 := by rw [hve, List.length_append]
          have E3 := Lib.hid (own_below E.out O.out hg hzr)
          clear hown hg hat hve
          subst hve'
          go_wp2
          go_roundw
          case rel => exact ⟨k + 1, A3, cap3, _, by omega, by go_num, rfl, Hn.out, O3.out, E3.out⟩
          case measure => simp [intOf]; omega
        · have hk' : k = rs.length := by omega
          have Hf : Hid (F = out) := Lib.hid (by rw [← HF.out, Hout.out, hk', List.take_length])
          have hge : decide ((k : Int) < (rs.length : Int)) = false := by simp; omega
          clear hk'
          go_wp2
          go_ret
          rw [Hf.out]
          exact ⟨A1, cap1, rfl, O.out, E.out⟩
end Go.Proofs.YtagmnbphbakikaaGreat
