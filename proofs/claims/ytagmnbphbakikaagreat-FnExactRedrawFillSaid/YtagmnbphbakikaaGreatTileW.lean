/-
  Tiles and the edges that touch them: the walks.
-/
import Derived.Test.YtagmnbphbakikaaGreatTileL
import Derived.Test.YtagmnbphbakikaaGreatBoxOf
import Derived.Test.YtagmnbphbakikaaGreatClips
namespace Go.Proofs.YtagmnbphbakikaaGreat
open Go Go.RowKit Reg
attribute [local go_sem] calmAt calmUpon
theorem acr_t {n : Int} (h : 1 ≤ n ∧ n ≤ 12) : Int.tdiv (n + 3) 4 = acrL n := by unfold acrL; rw [Int.tdiv_eq_ediv_of_nonneg (by omega)]
set_option maxHeartbeats 400000 in
theorem c_across (n : Int) (w : World) (h : 1 ≤ n ∧ n ≤ 12) : Calls Tryz.prog 97 #[.int .i64 n] w fun e w' => e = .returned (.int .i64 (acrL n)) ∧ w = w' := by
  have h1 := acr_t h
  go_enter Tryz.func97, Tryz.ntmps97
  go_wp2
  go_ret
  exact ⟨ret_i (by unfold acrL; omega), rfl⟩
set_option maxHeartbeats 1000000 in
theorem c_TileCount (a b : Int) (w : World) : Calls Tryz.prog 58 #[.int .i64 a, .int .i64 b] w fun e w' => e = .returned (.int .i64 (if (inB a 1 12 && inB b 1 12) then tilesL a b else -1)) ∧ w = w' := by
  obtain ⟨S, hS⟩ : ∃ S, (if (inB a 1 12 && inB b 1 12) then tilesL a b else -1) = S := ⟨_, rfl⟩
  rw [hS]
  obtain ⟨d, hd⟩ : ∃ d, (inB a 1 12 && inB b 1 12) = d := ⟨_, rfl⟩
  rw [hd] at hS
  have HS := Lib.hid hS
  have Hd := Lib.hid hd
  clear hS hd
  go_enter Tryz.func58, Tryz.ntmps58
  go_wp2_with fail
  refine (c_sized a b _).mono ?_
  rw [Hd.out]
  rintro e w' ⟨rfl, rfl⟩
  cases d
  · go_wp2
    go_ret
    exact ⟨ret_i (by rw [← HS.out]; rfl), rfl⟩
  · have h := Hd.out
    simp only [Bool.and_eq_true] at h
    have h1 := inB_iff.1 h.1
    have h2 := inB_iff.1 h.2
    clear h
    have hm : (1 ≤ acrL a ∧ acrL a ≤ 3) ∧ (1 ≤ acrL b ∧ acrL b ≤ 3) := by unfold acrL; omega
    have hp : 0 ≤ acrL a * acrL b ∧ acrL a * acrL b ≤ 9 := ⟨Int.mul_nonneg (by omega) (by omega), by have := Int.mul_le_mul hm.1.2 hm.2.2 (by omega) (by omega); omega⟩
    go_wp2_with fail
    refine (c_across a _ h1).mono ?_
    rintro e w' ⟨rfl, rfl⟩
    go_wp2_with fail
    refine (c_across b _ h2).mono ?_
    rintro e w' ⟨rfl, rfl⟩
    go_wp2
    go_ret
    exact ⟨ret_i (by rw [← HS.out]; rfl), rfl⟩
set_option maxHeartbeats 1000000 in
theorem c_tiles (a b : Int) (w : World) (h1 : 1 ≤ a ∧ a ≤ 12) (h2 : 1 ≤ b ∧ b ≤ 12) : Calls Tryz.prog 54 #[.int .i64 a, .int .i64 b] w fun e w' => e = .returned (.int .i64 (tilesL a b)) ∧ w = w' := by
  have e1 := acr_t h1
  have e2 := acr_t h2
  have e3 : a + 4 - 1 = a + 3 := by omega
  have e4 : b + 4 - 1 = b + 3 := by omega
  have hm : (1 ≤ acrL a ∧ acrL a ≤ 3) ∧ (1 ≤ acrL b ∧ acrL b ≤ 3) := by unfold acrL; omega
  have hp : 0 ≤ acrL a * acrL b ∧ acrL a * acrL b ≤ 9 := ⟨Int.mul_nonneg (by omega) (by omega), by have := Int.mul_le_mul hm.1.2 hm.2.2 (by omega) (by omega); omega⟩
  unfold tilesL
  generalize acrL a = x at *
  generalize acrL b = y at *
  go_enter Tryz.func54, Tryz.ntmps54
  go_wp2
  go_ret
  exact ⟨ret_i (by first | rfl | (simp only [e1, e2, e3, e4])), rfl⟩
set_option maxHeartbeats 2000000 in
theorem c_tileBox (a b t : Int) (w : World) (hv : tlB a b t = true) : Calls Tryz.prog 73 #[.int .i64 a, .int .i64 b, .int .i64 t] w fun e w' => e = .returned (bx4V (tileL a b t)) ∧ Below w.heap.size w w' := by
  obtain ⟨ha, _, _, hw, hh, ht, hx, hy⟩ := tile_bd hv
  have e1 := acr_t hw
  have e3 : a + 4 - 1 = a + 3 := by omega
  obtain ⟨L, hL⟩ : ∃ L, L = t % acrL a * 4 := ⟨_, rfl⟩
  obtain ⟨T0, hT⟩ : ∃ T0, T0 = t / acrL a * 4 := ⟨_, rfl⟩
  have e5 : Int.tmod t (acrL a) * 4 = L := by rw [Int.tmod_eq_emod_of_nonneg (by omega), hL]
  have e6 : Int.tdiv t (acrL a) * 4 = T0 := by rw [Int.tdiv_eq_ediv_of_nonneg (by omega), hT]
  have He : Hid (tileL a b t = (L, T0, min a (L + 4), min b (T0 + 4))) := Lib.hid (by unfold tileL; rw [hL, hT])
  rw [He.out] at hx hy ⊢
  dsimp only at hx hy
  have hne : ¬ acrL a = 0 := by omega
  have hb1 : 0 ≤ Int.tmod t (acrL a) ∧ Int.tmod t (acrL a) ≤ 12 := by omega
  have hb2 : 0 ≤ Int.tdiv t (acrL a) ∧ Int.tdiv t (acrL a) ≤ 12 := by omega
  clear hL hT hv He
  generalize acrL a = x at *
  have e7 : t % x * 4 = L := by rw [← e5, Int.tmod_eq_emod_of_nonneg (by omega)]
  have hb3 : 0 ≤ t % x ∧ t % x ≤ 12 := by rw [← Int.tmod_eq_emod_of_nonneg (by omega)]; exact hb1
  obtain ⟨R, hR⟩ : ∃ R, R = min a (L + 4) := ⟨_, rfl⟩
  obtain ⟨B, hB⟩ : ∃ B, B = min b (T0 + 4) := ⟨_, rfl⟩
  rw [← hR] at hx ⊢
  rw [← hB] at hy ⊢
  have hRc : (a ≤ L + 4 ∧ R = a) ∨ (¬ a ≤ L + 4 ∧ R = L + 4) := by omega
  have hBc : (b ≤ T0 + 4 ∧ B = b) ∨ (¬ b ≤ T0 + 4 ∧ B = T0 + 4) := by omega
  clear hR hB
  rcases hRc with ⟨r1, rfl⟩ | ⟨r1, rfl⟩ <;> rcases hBc with ⟨r2, rfl⟩ | ⟨r2, rfl⟩
  all_goals
    go_enter Tryz.func73, Tryz.ntmps73
    go_wp2
    exact bodyPost_ret (v := bx4V (_, _, _, _)) (by simp [results, Tryz.results73, go_sem]) rfl ⟨rfl, ext_alloc _ _⟩
set_option maxHeartbeats 4000000 in
theorem c_TileBox (a b t : Int) (w : World) : Calls Tryz.prog 83 #[.int .i64 a, .int .i64 b, .int .i64 t] w fun e w' => e = .returned (.tuple #[bx4V (if tlB a b t then tileL a b t else (0, 0, 0, 0)), .bool (tlB a b t)]) ∧ Below w.heap.size w w' := by
  obtain ⟨d, hd⟩ : ∃ d, (inB a 1 12 && inB b 1 12) = d := ⟨_, rfl⟩
  have KT := Lib.hid (fun W => c_TileCount a b W)
  cases hv : tlB a b t with
  | false =>
    rw [if_neg (by simp)]
    obtain ⟨c, hc⟩ : ∃ c, (if (inB a 1 12 && inB b 1 12) then tilesL a b else -1) = c := ⟨_, rfl⟩
    rw [hc] at KT
    have hin : inB t 0 (c - 1) = false := by
      cases hd' : (inB a 1 12 && inB b 1 12) with
      | true =>
        rw [hd', if_pos rfl] at hc
        rw [← hc]
        unfold tlB at hv
        rw [hd'] at hv
        simpa using hv
      | false =>
        rw [hd'] at hc
        have : c = -1 := by rw [← hc]; rfl
        subst this
        rw [Bool.eq_false_iff]; intro hh; have := inB_iff.1 hh; omega
    have hcb : -1 ≤ c ∧ c ≤ 100 := by
      rw [← hc]
      split
      · rename_i hh
        simp only [Bool.and_eq_true] at hh
        have h1 := inB_iff.1 hh.1
        have h2 := inB_iff.1 hh.2
        have hm : (1 ≤ acrL a ∧ acrL a ≤ 3) ∧ (1 ≤ acrL b ∧ acrL b ≤ 3) := by unfold acrL; omega
        unfold tilesL
        exact ⟨by have := Int.mul_nonneg (show 0 ≤ acrL a by omega) (show 0 ≤ acrL b by omega); omega, by have := Int.mul_le_mul hm.1.2 hm.2.2 (by omega) (by omega); omega⟩
      · omega
    have Hin := Lib.hid hin
    clear hin hc hd hv
    go_enter Tryz.func83, Tryz.ntmps83
    go_wp2_with fail
    refine (KT.out _).mono ?_
    rintro e w' ⟨rfl, rfl⟩
    go_wp2_with fail
    refine (c_in t 0 (c - 1) _).mono ?_
    rw [Hin.out]
    rintro e w' ⟨rfl, rfl⟩
    go_wp2
    exact bodyPost_ret (v := .tuple #[bx4V (0, 0, 0, 0), .bool false]) (by simp [results, Tryz.results83, go_sem]) rfl ⟨rfl, (by repeat (first | exact Below.refl _ _ | assumption | refine Below.drew ?_ | refine Below.alloc ?_ (by first | exact Nat.le_refl _ | omega | (simp; done) | (simp; omega)) _ | refine Below.setCell ?_ (by first | exact Nat.le_refl _ | omega | (simp; done) | (simp; omega)) _))⟩
  | true =>
    rw [if_pos rfl]
    obtain ⟨ha, _, htl, hw, hh, ht, hx, hy⟩ := tile_bd hv
    have hv' := hv
    unfold tlB at hv'
    simp only [Bool.and_eq_true] at hv'
    obtain ⟨hsz, hin⟩ := hv'
    have hsz' : (inB a 1 12 && inB b 1 12) = true := by simp [hsz]
    rw [hsz', if_pos rfl] at KT
    have Hin := Lib.hid hin
    have KA := Lib.hid (fun W => c_across a W hw)
    have hcb : 1 ≤ tilesL a b ∧ tilesL a b ≤ 9 := htl
    obtain ⟨L, hL⟩ : ∃ L, L = t % acrL a * 4 := ⟨_, rfl⟩
    obtain ⟨T0, hT⟩ : ∃ T0, T0 = t / acrL a * 4 := ⟨_, rfl⟩
    have e5 : Int.tmod t (acrL a) * 4 = L := by rw [Int.tmod_eq_emod_of_nonneg (by omega), hL]
    have e6 : Int.tdiv t (acrL a) * 4 = T0 := by rw [Int.tdiv_eq_ediv_of_nonneg (by omega), hT]
    have He : Hid (tileL a b t = (L, T0, min a (L + 4), min b (T0 + 4))) := Lib.hid (by unfold tileL; rw [hL, hT])
    rw [He.out] at hx hy ⊢
    dsimp only at hx hy
    have hne : ¬ acrL a = 0 := by omega
    have hb1 : 0 ≤ Int.tmod t (acrL a) ∧ Int.tmod t (acrL a) ≤ 12 := by omega
    have hb2 : 0 ≤ Int.tdiv t (acrL a) ∧ Int.tdiv t (acrL a) ≤ 12 := by omega
    clear hL hT hv He htl hsz hsz' hin hd
    generalize acrL a = x at *
    generalize tilesL a b = c at *
    have e7 : t % x * 4 = L := by rw [← e5, Int.tmod_eq_emod_of_nonneg (by omega)]
    have hb3 : 0 ≤ t % x ∧ t % x ≤ 12 := by rw [← Int.tmod_eq_emod_of_nonneg (by omega)]; exact hb1
    have w1 : IntKind.i64.wrap (t % x) = t % x := IntWalk.i64_in _ (by omega)
    have w2 : IntKind.i64.wrap (Int.tmod t x) = Int.tmod t x := IntWalk.i64_in _ (by omega)
    have w3 : IntKind.i64.wrap (Int.tdiv t x) = Int.tdiv t x := IntWalk.i64_in _ (by omega)
    have w4 : IntKind.i64.wrap L = L := IntWalk.i64_in _ (by omega)
    have w5 : IntKind.i64.wrap T0 = T0 := IntWalk.i64_in _ (by omega)
    obtain ⟨R, hR⟩ : ∃ R, R = min a (L + 4) := ⟨_, rfl⟩
    obtain ⟨B, hB⟩ : ∃ B, B = min b (T0 + 4) := ⟨_, rfl⟩
    rw [← hR] at hx ⊢
    rw [← hB] at hy ⊢
    have hRc : (L + 4 ≤ a ∧ R = L + 4) ∨ (¬ L + 4 ≤ a ∧ R = a) := by omega
    have hBc : (T0 + 4 ≤ b ∧ B = T0 + 4) ∨ (¬ T0 + 4 ≤ b ∧ B = b) := by omega
    clear hR hB
    have Z0 := Lib.hid (Row.new w 122 [.int .i64 0, .int .i64 0, .int .i64 0, .int .i64 0])
    have E := Lib.hid (Below.refl w.heap.size w)
    rcases hRc with ⟨r1, rfl⟩ | ⟨r1, rfl⟩ <;> rcases hBc with ⟨r2, rfl⟩ | ⟨r2, rfl⟩
    all_goals
      clear Z0
      go_enter Tryz.func83, Tryz.ntmps83
      go_wp2_with fail
      first | refine gen_calls ?_ | refine gen_code ?_ | refine gen_list ?_
      intro wz hW
      obtain ⟨hb, hZ⟩ := new1 hW
      clear hW
      replace E := Lib.hid (Ext.trans E.out hb)
      clear hb
      have Z := Lib.hid hZ
      have lZ := Z.out.lt
      clear hZ
      go_wp2_with fail
      refine (KT.out _).mono ?_
      rintro e w' ⟨rfl, rfl⟩
      go_wp2_with fail
      refine (c_in t 0 (c - 1) _).mono ?_
      rw [Hin.out]
      rintro e w' ⟨rfl, rfl⟩
      go_wp2_with fail
      refine wp_region_calm [0,1,2,3,4,5,6,7,8,9,10,11] [] (by kernel_rfl) (by kernel_rfl) ?_
      iterate 2 ((refine calm_yes rfl rfl (fun w' hC => (by go_simp; rfl)) (fun K hK => ?_); go_simp; refine hK _ ?_; clear hK K))
      (apply calm_call rfl rfl rfl Tryz.func97 (by kernel_rfl) rfl (by go_simp; rfl); exact (fun w' hC => (KA.out w').mono fun e w'' h => ⟨h.1, by rw [← h.2]; exact Below.refl _ _⟩); intro K hK; go_simp; refine hK _ ?_; clear hK K)
      iterate 4 ((refine calm_yes rfl rfl (fun w' hC => (by go_simp; rfl)) (fun K hK => ?_); go_simp; refine hK _ ?_; clear hK K))
      (apply calm_call rfl rfl rfl Tryz.func97 (by kernel_rfl) rfl (by go_simp; rfl); exact (fun w' hC => (KA.out w').mono fun e w'' h => ⟨h.1, by rw [← h.2]; exact Below.refl _ _⟩); intro K hK; go_simp; refine hK _ ?_; clear hK K)
      iterate 4 ((refine calm_yes rfl rfl (fun w' hC => (by go_simp; rfl)) (fun K hK => ?_); go_simp; refine hK _ ?_; clear hK K))
      refine calm_done (fun wy hy2 => ?_)
      replace E := Lib.hid (Ext.trans E.out hy2)
      have Zy := Lib.hid (Z.out.ext hy2)
      clear hy2 Z
      have z0 := Zy.out.cell_of (i := 0) rfl
      have z1 := Zy.out.cell_of (i := 1) rfl
      have z2 := Zy.out.cell_of (i := 2) rfl
      have z3 := Zy.out.cell_of (i := 3) rfl
      have y0 := Zy.out.frozen 0
      have y1 := Zy.out.frozen 1
      have y2 := Zy.out.frozen 2
      have y3 := Zy.out.frozen 3
      go_wp2_with fail
      exact bodyPost_ret (v := .tuple #[bx4V (_, _, _, _), .bool true]) (by simp [results, Tryz.results83, go_sem, z0, z1, z2, z3]) rfl ⟨rfl, (((E.out.setCell (by simp) _).setCell (by simp) _).setCell (by simp) _).setCell (by simp) _⟩
end Go.Proofs.YtagmnbphbakikaaGreat
