/-
  The reference's windings and areas: the walks.
-/
import Derived.Test.YtjgpojegaojnmaaGreatStepW
namespace Go.Proofs.YtjgpojegaojnmaaGreat
open Go Go.RowKit Reg
attribute [local go_sem] calmAt calmUpon
/-- A sum over the first edges of a polygon. -/
def sumEk (f : Pt → Pt → Int) (r : Rg) (k : Nat) : Int := sumI (((edgesL r).take k).map fun e => f e.1 e.2)
theorem sumEk_succ (f : Pt → Pt → Int) {r : Rg} {k m : Nat} (h : k < r.length) (hm : m = (k + 1) % r.length) (hml : m < r.length) : sumEk f r (k + 1) = sumEk f r k + f r[k] r[m] := by
  subst hm
  unfold sumEk
  rw [List.take_succ_eq_append_getElem (by rw [edgesL_len]; exact h), edgesL_get h, List.map_append, sumI_append]; simp [sumI]
theorem sumEk_all (f : Pt → Pt → Int) {r : Rg} {k : Nat} (h : k = r.length) : sumEk f r k = sumE f r := by
  unfold sumEk sumE; rw [List.take_of_length_le (by rw [edgesL_len]; omega)]
theorem sumEk_bd {f : Pt → Pt → Int} {r : Rg} {B : Int} (hf : ∀ a ∈ r, ∀ b ∈ r, -B ≤ f a b ∧ f a b ≤ B) (hB : 0 ≤ B) {k : Nat} (hk : k ≤ 40) : -(40 * B) ≤ sumEk f r k ∧ sumEk f r k ≤ 40 * B := by
  have := sumI_bd (l := ((edgesL r).take k).map fun e => f e.1 e.2) (B := B) (by
    intro v hv
    obtain ⟨⟨a, b⟩, he, rfl⟩ := List.mem_map.1 hv
    have he := List.mem_of_mem_take he
    have h1 := (List.of_mem_zip he).1
    have h2 := (List.of_mem_zip he).2
    refine hf a h1 b ?_
    rcases List.mem_append.1 h2 with h2 | h2
    · exact List.mem_of_mem_tail h2
    · exact List.mem_of_mem_take h2)
  rw [List.length_map] at this
  have h1 : ((edgesL r).take k).length ≤ 40 := by rw [List.length_take]; omega
  have h2 : ((((edgesL r).take k).length : Nat) : Int) * B ≤ (40 : Int) * B := Int.mul_le_mul_of_nonneg_right (by omega) hB
  unfold sumEk; omega
theorem sumS_take (f : Pt → Pt → Int) {rs : List Rg} {k : Nat} (h : k < rs.length) : sumS f (rs.take (k + 1)) = sumS f (rs.take k) + sumE f rs[k] := by
  rw [List.take_succ_eq_append_getElem h, sumS_snoc]
theorem sumS_bd {f : Pt → Pt → Int} {rs : List Rg} {B : Int} (h : ∀ r ∈ rs, -B ≤ sumE f r ∧ sumE f r ≤ B) (hB : 0 ≤ B) {k : Nat} (hk : k ≤ 8) : -(8 * B) ≤ sumS f (rs.take k) ∧ sumS f (rs.take k) ≤ 8 * B := by
  have := sumI_bd (l := (rs.take k).map (sumE f)) (B := B) (by
    intro v hv
    obtain ⟨r, hr, rfl⟩ := List.mem_map.1 hv
    exact h r (List.mem_of_mem_take hr))
  rw [List.length_map] at this
  have h1 : (rs.take k).length ≤ 8 := by rw [List.length_take]; omega
  have h2 : (((rs.take k).length : Nat) : Int) * B ≤ (8 : Int) * B := Int.mul_le_mul_of_nonneg_right (by omega) hB
  unfold sumS; omega
theorem sumE_bd40 {f : Pt → Pt → Int} {r : Rg} {B : Int} (hf : ∀ a ∈ r, ∀ b ∈ r, -B ≤ f a b ∧ f a b ≤ B) (hB : 0 ≤ B) (hr : psB r = true) : -(40 * B) ≤ sumE f r ∧ sumE f r ≤ 40 * B := by
  have := sumEk_bd hf hB (k := r.length) (psB_len hr)
  rwa [sumEk_all f rfl] at this
set_option maxRecDepth 100000 in
set_option maxHeartbeats 4000000 in
theorem c_swinding (A : Option Addr) (cap : Nat) (rs : List Rg) (x y : Int) (w : World) (h : Rgs w A rs) (hv : rgsB rs = true) (hx : -2000 ≤ x ∧ x ≤ 2000) (hy : -2000 ≤ y ∧ y ≤ 2000) :
    Calls Tryz.prog 94 #[.slice A rs.length cap, .int .i64 x, .int .i64 y] w fun e w' => e = .returned (.int .i64 (windL rs x y)) ∧ Below w.heap.size w w' := by
  have hr := rgsB_iff.1 hv
  have hrl : rs.length ≤ 8 := hr.2.1
  have Hr := Lib.hid hr.1
  have H := Lib.hid h
  obtain ⟨S, hS⟩ : ∃ S, windL rs x y = S := ⟨_, rfl⟩
  rw [hS]
  have HS : Hid (sumS (stepL x y) rs = S) := Lib.hid hS
  have Hx := Lib.hid (And.intro hx hy)
  clear h hv hr hS hx hy
  go_enter Tryz.func94, Tryz.ntmps94
  go_wp2_with fail
  go_loopw [7, 8] (fun n i wr => ∃ (k : Nat), k ≤ rs.length ∧ i = .int .i64 k ∧ n = .int .i64 (sumS (stepL x y) (rs.take k)) ∧ Ext w wr) (fun _ i _ => rs.length - (intOf i).toNat)
  case atStart => exact ⟨0, Nat.zero_le _, rfl, rfl, Below.refl _ _⟩
  case round =>
    obtain ⟨k, hk, rfl, rfl, hbw⟩ := hrel
    have E := Lib.hid hbw
    clear hbw
    have hbd := sumS_bd (f := stepL x y) (rs := rs) (B := 40) (fun r hr => by have := sumE_bd40 (f := stepL x y) (B := 1) (fun a _ b _ => stepL_bd x y a b) (by omega) (Hr.out r hr).2; omega) (by omega) (k := k) (by omega)
    by_cases hlt : k < rs.length
    · obtain ⟨b, off, hA, _, hc⟩ := H.out.rgs (by omega)
      subst hA
      obtain ⟨A', cap', cr, hp, hle, hmx⟩ := hc k hlt
      have hps := (Hr.out _ (List.getElem_mem hlt)).2
      have Hs := Lib.hid (sumS_take (stepL x y) hlt)
      have Hp := Lib.hid hp
      have Cr := Lib.hid cr
      have h40 := psB_len hps
      clear hc hp cr
      generalize rs[k] = r at *
      have Hps := Lib.hid hps
      clear hps
      generalize sumS (stepL x y) (rs.take k) = n at *
      obtain ⟨wo, hwo⟩ : ∃ wo : World, wo = wr := ⟨_, rfl⟩
      subst hwo
      go_wp2_with fail
      go_loopw [7, 9] (fun n' i wr => ∃ (j : Nat), j ≤ r.length ∧ i = .int .i64 j ∧ n' = .int .i64 (n + sumEk (stepL x y) r j) ∧ Ext w wr) (fun _ i _ => r.length - (intOf i).toNat)
      case atStart => exact ⟨0, Nat.zero_le _, rfl, by simp [sumEk, sumI], E.out⟩
      case round =>
        obtain ⟨j, hj, rfl, rfl, hbw⟩ := hrel
        clear E
        have E := Lib.hid hbw
        clear hbw
        have hbj := sumEk_bd (f := stepL x y) (r := r) (B := 1) (fun a _ b _ => stepL_bd x y a b) (by omega) (k := j) (by omega)
        have cr := Cls.cell E.out Cr.out
        by_cases hjl : j < r.length
        · obtain ⟨m, hm⟩ : ∃ m, m = (j + 1) % r.length := ⟨_, rfl⟩
          have hml : m < r.length := by rw [hm]; exact Nat.mod_lt _ (by omega)
          obtain ⟨b1, off1, hA, _, hc⟩ := (Hp.out.ext ptR_stab E.out).pts (by omega)
          subst hA
          obtain ⟨cx, cy⟩ := hc j hjl
          obtain ⟨dx, dy⟩ := hc m hml
          have Hst := Lib.hid (sumEk_succ (stepL x y) hjl hm hml)
          have hne : ¬ r = [] := by intro hh; subst hh; simp at hjl
          have g1 : IntKind.i64.wrap ((j : Int) + 1) = (j : Int) + 1 := IntWalk.i64_in _ (by omega)
          have g2 : Int.tmod ((j : Int) + 1) (r.length : Int) = (m : Int) := by rw [hm]; exact tmod_nat1 j r.length 1
          have q1 := crd2_of Hps.out (List.getElem_mem hjl)
          have q2 := crd2_of Hps.out (List.getElem_mem hml)
          have K := Lib.hid (fun W => c_stepOf r[j] r[m] x y W q1 q2 Hx.out.1 Hx.out.2)
          have hsb := stepL_bd x y r[j] r[m]
          have G := Lib.hid (And.intro g1 g2)
          obtain ⟨u1, u2⟩ : (0 : Int) ≤ (m : Int) ∧ (m : Int) < (r.length : Int) := by omega
          clear hc g1 g2 hm q1 q2
          generalize r[j] = p at *
          generalize r[m] = q at *
          generalize stepL x y p q = s at *
          generalize sumEk (stepL x y) r j = t at *
          have g3 : IntKind.i64.wrap (n + t + s) = n + t + s := IntWalk.i64_in _ (by omega)
          have G3 := Lib.hid g3
          clear g3
          have v1 : (k : Int) < (rs.length : Int) := by omega
          have v2 : (j : Int) < (r.length : Int) := by omega
          go_wp2_with fail
          obtain ⟨g1, g2⟩ := G.out
          have g3 := G3.out
          refine wp_region_calm [0,1,2,3,4,5,6,7,8,9,10,11,12,13,14,15,16,17,18,19,20,21,22,23,24,25,26] [] (by kernel_rfl) (by kernel_rfl) ?_
          (refine calm_yes rfl rfl (fun w' hC => (by have cr := hC.cell cr; have cx := hC.cell cx; have cy := hC.cell cy; have dx := hC.cell dx; have dy := hC.cell dy; go_simp; rfl)) (fun K hK => ?_); go_simp; refine hK _ ?_; clear hK K)
          (refine calm_yes rfl rfl (fun w' hC => (by have cr := hC.cell cr; have cx := hC.cell cx; have cy := hC.cell cy; have dx := hC.cell dx; have dy := hC.cell dy; go_simp; rfl)) (fun K hK => ?_); go_simp; refine hK _ ?_; clear hK K)
          (refine calm_yes rfl rfl (fun w' hC => (by have cr := hC.cell cr; have cx := hC.cell cx; have cy := hC.cell cy; have dx := hC.cell dx; have dy := hC.cell dy; go_simp; rfl)) (fun K hK => ?_); go_simp; refine hK _ ?_; clear hK K)
          (refine calm_yes rfl rfl (fun w' hC => (by have cr := hC.cell cr; have cx := hC.cell cx; have cy := hC.cell cy; have dx := hC.cell dx; have dy := hC.cell dy; go_simp; rfl)) (fun K hK => ?_); go_simp; refine hK _ ?_; clear hK K)
          (refine calm_yes rfl rfl (fun w' hC => (by have cr := hC.cell cr; have cx := hC.cell cx; have cy := hC.cell cy; have dx := hC.cell dx; have dy := hC.cell dy; go_simp; rfl)) (fun K hK => ?_); go_simp; refine hK _ ?_; clear hK K)
          (refine calm_yes rfl rfl (fun w' hC => (by have cr := hC.cell cr; have cx := hC.cell cx; have cy := hC.cell cy; have dx := hC.cell dx; have dy := hC.cell dy; go_simp; rfl)) (fun K hK => ?_); go_simp; refine hK _ ?_; clear hK K)
          (refine calm_yes rfl rfl (fun w' hC => (by have cr := hC.cell cr; have cx := hC.cell cx; have cy := hC.cell cy; have dx := hC.cell dx; have dy := hC.cell dy; go_simp; rfl)) (fun K hK => ?_); go_simp; refine hK _ ?_; clear hK K)
          (refine calm_yes rfl rfl (fun w' hC => (by have cr := hC.cell cr; have cx := hC.cell cx; have cy := hC.cell cy; have dx := hC.cell dx; have dy := hC.cell dy; go_simp; rfl)) (fun K hK => ?_); go_simp; refine hK _ ?_; clear hK K)
          (refine calm_yes rfl rfl (fun w' hC => (by have cr := hC.cell cr; have cx := hC.cell cx; have cy := hC.cell cy; have dx := hC.cell dx; have dy := hC.cell dy; go_simp; rfl)) (fun K hK => ?_); go_simp; refine hK _ ?_; clear hK K)
          (refine calm_yes rfl rfl (fun w' hC => (by have cr := hC.cell cr; have cx := hC.cell cx; have cy := hC.cell cy; have dx := hC.cell dx; have dy := hC.cell dy; go_simp; rfl)) (fun K hK => ?_); go_simp; refine hK _ ?_; clear hK K)
          (refine calm_yes rfl rfl (fun w' hC => (by have cr := hC.cell cr; have cx := hC.cell cx; have cy := hC.cell cy; have dx := hC.cell dx; have dy := hC.cell dy; go_simp; rfl)) (fun K hK => ?_); go_simp; refine hK _ ?_; clear hK K)
          (refine calm_yes rfl rfl (fun w' hC => (by have cr := hC.cell cr; have cx := hC.cell cx; have cy := hC.cell cy; have dx := hC.cell dx; have dy := hC.cell dy; go_simp; rfl)) (fun K hK => ?_); go_simp; refine hK _ ?_; clear hK K)
          (refine calm_yes rfl rfl (fun w' hC => (by have cr := hC.cell cr; have cx := hC.cell cx; have cy := hC.cell cy; have dx := hC.cell dx; have dy := hC.cell dy; go_simp; rfl)) (fun K hK => ?_); go_simp; refine hK _ ?_; clear hK K)
          (refine calm_yes rfl rfl (fun w' hC => (by have cr := hC.cell cr; have cx := hC.cell cx; have cy := hC.cell cy; have dx := hC.cell dx; have dy := hC.cell dy; go_simp; rfl)) (fun K hK => ?_); go_simp; refine hK _ ?_; clear hK K)
          (refine calm_yes rfl rfl (fun w' hC => (by have cr := hC.cell cr; have cx := hC.cell cx; have cy := hC.cell cy; have dx := hC.cell dx; have dy := hC.cell dy; go_simp; rfl)) (fun K hK => ?_); go_simp; refine hK _ ?_; clear hK K)
          (refine calm_yes rfl rfl (fun w' hC => (by have cr := hC.cell cr; have cx := hC.cell cx; have cy := hC.cell cy; have dx := hC.cell dx; have dy := hC.cell dy; go_simp; rfl)) (fun K hK => ?_); go_simp; refine hK _ ?_; clear hK K)
          (refine calm_yes rfl rfl (fun w' hC => (by have cr := hC.cell cr; have cx := hC.cell cx; have cy := hC.cell cy; have dx := hC.cell dx; have dy := hC.cell dy; go_simp; rfl)) (fun K hK => ?_); go_simp; refine hK _ ?_; clear hK K)
          (refine calm_yes rfl rfl (fun w' hC => (by have cr := hC.cell cr; have cx := hC.cell cx; have cy := hC.cell cy; have dx := hC.cell dx; have dy := hC.cell dy; go_simp; rfl)) (fun K hK => ?_); go_simp; refine hK _ ?_; clear hK K)
          (refine calm_yes rfl rfl (fun w' hC => (by have cr := hC.cell cr; have cx := hC.cell cx; have cy := hC.cell cy; have dx := hC.cell dx; have dy := hC.cell dy; go_simp; rfl)) (fun K hK => ?_); go_simp; refine hK _ ?_; clear hK K)
          (refine calm_yes rfl rfl (fun w' hC => (by have cr := hC.cell cr; have cx := hC.cell cx; have cy := hC.cell cy; have dx := hC.cell dx; have dy := hC.cell dy; go_simp; rfl)) (fun K hK => ?_); go_simp; refine hK _ ?_; clear hK K)
          (refine calm_yes rfl rfl (fun w' hC => (by have cr := hC.cell cr; have cx := hC.cell cx; have cy := hC.cell cy; have dx := hC.cell dx; have dy := hC.cell dy; go_simp; rfl)) (fun K hK => ?_); go_simp; refine hK _ ?_; clear hK K)
          (refine calm_yes rfl rfl (fun w' hC => (by have cr := hC.cell cr; have cx := hC.cell cx; have cy := hC.cell cy; have dx := hC.cell dx; have dy := hC.cell dy; go_simp; rfl)) (fun K hK => ?_); go_simp; refine hK _ ?_; clear hK K)
          (refine calm_yes rfl rfl (fun w' hC => (by have cr := hC.cell cr; have cx := hC.cell cx; have cy := hC.cell cy; have dx := hC.cell dx; have dy := hC.cell dy; go_simp; rfl)) (fun K hK => ?_); go_simp; refine hK _ ?_; clear hK K)
          (refine calm_yes rfl rfl (fun w' hC => (by have cr := hC.cell cr; have cx := hC.cell cx; have cy := hC.cell cy; have dx := hC.cell dx; have dy := hC.cell dy; go_simp; rfl)) (fun K hK => ?_); go_simp; refine hK _ ?_; clear hK K)
          (apply calm_call rfl rfl rfl Tryz.func137 (by kernel_rfl) rfl (by go_simp; rfl); exact (fun w' hC => K.out w'); intro K hK; go_simp; refine hK _ ?_; clear hK K)
          (refine calm_yes rfl rfl (fun w' hC => (by have cr := hC.cell cr; have cx := hC.cell cx; have cy := hC.cell cy; have dx := hC.cell dx; have dy := hC.cell dy; go_simp; rfl)) (fun K hK => ?_); go_simp; refine hK _ ?_; clear hK K)
          (refine calm_yes rfl rfl (fun w' hC => (by have cr := hC.cell cr; have cx := hC.cell cx; have cy := hC.cell cy; have dx := hC.cell dx; have dy := hC.cell dy; go_simp; rfl)) (fun K hK => ?_); go_simp; refine hK _ ?_; clear hK K)
          refine calm_done (fun w2 hb => ?_)
          clear cr cx cy dx dy
          replace E := Lib.hid (Ext.trans E.out hb)
          clear hb
          clear g1 g2 g3
          go_wp2
          go_roundw
          case rel => exact ⟨j + 1, by omega, by go_num, by rw [Hst.out]; congr 1; omega, E.out⟩
          case measure => simp [intOf]; omega
        · have hj' : j = r.length := by omega
          have Hf := Lib.hid (sumEk_all (stepL x y) hj')
          clear hj'
          go_wp2
          go_roundw
          case rel => exact ⟨k + 1, by omega, by go_num, by rw [Hs.out, Hf.out], E.out⟩
          case measure => simp [intOf]; omega
    · have hk' : k = rs.length := by omega
      have Hf : Hid (sumS (stepL x y) (rs.take k) = S) := Lib.hid (by rw [hk', List.take_length]; exact HS.out)
      clear hk'
      go_wp2
      go_ret
      exact ⟨ret_i (by rw [Hf.out]), E.out⟩
end Go.Proofs.YtjgpojegaojnmaaGreat
