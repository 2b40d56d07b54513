/-
  The reader: the walks of pick and one.
-/
import Derived.Test.YtalicpgnjpgloaaMg4
namespace Go.Proofs.Ytalicpgnjpgloaa
open Go Go.RowKit Reg
attribute [local go_sem] calmAt calmUpon
theorem i64_xor_nn (a b : Int) (h1 : 0 ≤ a) (h2 : a < 9223372036854775808) (h3 : 0 ≤ b) (h4 : b < 9223372036854775808) : 0 ≤ bits .xor .i64 a b ∧ bits .xor .i64 a b < 9223372036854775808 := by
  obtain ⟨A, rfl⟩ := Int.eq_ofNat_of_zero_le h1
  obtain ⟨B, rfl⟩ := Int.eq_ofNat_of_zero_le h3
  have hx : A ^^^ B < 2 ^ 63 := Nat.xor_lt_two_pow (by omega) (by omega)
  have e1 : (BitVec.ofInt 64 (A : Int)).toNat = A := by
    rw [BitVec.ofInt_natCast, BitVec.toNat_ofNat]; exact Nat.mod_eq_of_lt (by omega)
  have e2 : (BitVec.ofInt 64 (B : Int)).toNat = B := by
    rw [BitVec.ofInt_natCast, BitVec.toNat_ofNat]; exact Nat.mod_eq_of_lt (by omega)
  have e : bits .xor .i64 (A : Int) (B : Int) = ((A ^^^ B : Nat) : Int) := by
    show IntKind.i64.wrap ((BitVec.ofInt 64 (A : Int) ^^^ BitVec.ofInt 64 (B : Int)).toNat : Int) = _
    rw [BitVec.toNat_xor, e1, e2]
    exact IntWalk.i64_in _ (by omega)
  rw [e]; omega
/-- A number drawn, below n. -/
def Picked (w w' : World) (e : Ending) (g N : Nat) (P : Int → Prop) : Prop := ∃ v, e = .returned (.int .i64 v) ∧ P v ∧ Rdr w' g N ∧ w.grownBy w' (some g)
def below (n : Int) : Int → Prop := fun v => 0 ≤ v ∧ (1 ≤ n → v < n)
theorem picked_of {w w' : World} {g N M : Nat} {P : Int → Prop} {v : Int} (hP : P v) (hr : Rdr w' g N) (hN : N ≤ M) (hg : w.grownBy w' (some g)) : Picked w w' (.returned (.int .i64 v)) g M P := ⟨v, rfl, hP, hr.mono hN, hg⟩
set_option maxRecDepth 100000 in
set_option maxHeartbeats 4000000 in
theorem c_pick (g N : Nat) (n : Int) (w : World) (h : Rdr w g N) (hN : N + 1 ≤ 1000000) :
    Calls Try.prog 19 #[.pointer (some ⟨g, 0, none⟩), .int .i64 n] w fun e w' => Picked w w' e g (N + 1) (below n) := by
  obtain ⟨A, cap, bs, p, hr, hp0, hpN, hi, hl, hc, hne⟩ := h
  have hr1 := hr.set_ 1 (.int .i64 (p + 1))
  have hg1 : w.grownBy (w.setCell ⟨g, 1, none⟩ (.int .i64 (p + 1))) (some g) := only_set (only_refl _ _) 1 _
  have hi1 : In byteR 1 (w.setCell ⟨g, 1, none⟩ (.int .i64 (p + 1))) A bs := by
    intro h0
    obtain ⟨b, off, hA, hk⟩ := hi h0
    refine ⟨b, off, hA, fun k hk' => ?_⟩
    obtain ⟨us, q1, q2, q3⟩ := hk k hk'
    refine ⟨us, q1, q2, fun j u hu => ?_⟩
    have := q3 j u hu
    have hbg : b ≠ g := Nat.ne_of_lt (hne b off hA h0)
    unfold World.cell? at this ⊢
    rw [Below.heap_setCell w ⟨g, 1, none⟩ _ b hbg]
    exact this
  have hR1 : Rdr (w.setCell ⟨g, 1, none⟩ (.int .i64 (p + 1))) g (N + 1) := ⟨A, cap, bs, p + 1, hr1, by omega, by push_cast; omega, hi1, hl, hc, hne⟩
  have c0 := hr.cell_of (i := 0) rfl
  have c1 := hr.cell_of (i := 1) rfl
  have fz := hr.frozen 1
  have d0 := hr1.cell_of (i := 0) rfl
  have d1 := hr1.cell_of (i := 1) rfl
  have HR1 := Lib.hid hR1
  have Hg1 := Lib.hid hg1
  have Hi1 := Lib.hid hi1
  clear hr hr1 hR1 hg1 hi hi1 hne
  by_cases hn : n < 1
  · go_enter Try.func19, Try.ntmps19
    go_wp2
    go_ret
    exact picked_of (by unfold below; omega) HR1.out (Nat.le_refl _) Hg1.out
  by_cases h0 : bs.length = 0
  · have hb : (((bs.length : Nat) : Int) == 0) = true := by simp; exact List.eq_nil_of_length_eq_zero h0
    clear h0
    go_enter Try.func19, Try.ntmps19
    go_wp2
    go_ret
    exact picked_of (by unfold below; omega) HR1.out (Nat.le_refl _) Hg1.out
  have hb : (((bs.length : Nat) : Int) == 0) = false := by simp; intro hh; subst hh; simp at h0
  have hne : ¬ bs = [] := by intro hh; subst hh; simp at h0
  obtain ⟨k, rfl⟩ : ∃ k : Nat, p = (k : Int) := ⟨p.toNat, by omega⟩
  obtain ⟨b, off, rfl, _, hcs⟩ := Hi1.out.bytes (by omega)
  by_cases hlt : k < bs.length
  · obtain ⟨cb, b0, b1⟩ := hcs k hlt
    generalize bs[k] = x at *
    have hx : Hid (below n (x % n)) := Lib.hid (by
      unfold below
      exact ⟨Int.emod_nonneg _ (by omega), fun _ => Int.emod_lt_of_pos _ (by omega)⟩)
    clear hcs Hi1
    go_enter Try.func19, Try.ntmps19
    go_wp2
    go_ret
    exact picked_of hx.out HR1.out (Nat.le_refl _) Hg1.out
  · have hltI : ¬ (k : Int) < (bs.length : Int) := by omega
    obtain ⟨i1, hi1⟩ : ∃ m, m = k % bs.length := ⟨_, rfl⟩
    obtain ⟨i2, hi2⟩ : ∃ m, m = (k * 7 + 3) % bs.length := ⟨_, rfl⟩
    obtain ⟨q, hq⟩ : ∃ m, m = k / bs.length := ⟨_, rfl⟩
    have l1 : i1 < bs.length := by rw [hi1]; exact Nat.mod_lt _ (by omega)
    have l2 : i2 < bs.length := by rw [hi2]; exact Nat.mod_lt _ (by omega)
    have hq1 : q ≤ k := by rw [hq]; exact Nat.div_le_self _ _
    obtain ⟨cb1, b10, b11⟩ := hcs i1 l1
    obtain ⟨cb2, b20, b21⟩ := hcs i2 l2
    generalize bs[i1] = x1 at *
    generalize bs[i2] = x2 at *
    have f1 : Int.tmod (k : Int) (bs.length : Int) = (i1 : Int) := by rw [tmod_nat, hi1]
    have g1 : IntKind.i64.wrap ((k : Int) * 7) = (k : Int) * 7 := IntWalk.i64_in _ (by omega)
    have g2 : IntKind.i64.wrap ((k : Int) * 7 + 3) = (k : Int) * 7 + 3 := IntWalk.i64_in _ (by omega)
    have f2 : Int.tmod ((k : Int) * 7 + 3) (bs.length : Int) = (i2 : Int) := by
      rw [show (k : Int) * 7 + 3 = ((k * 7 + 3 : Nat) : Int) by push_cast; omega, tmod_nat, hi2]
    have f3 : Int.tdiv (k : Int) (bs.length : Int) = (q : Int) := by rw [Int.tdiv_eq_ediv_of_nonneg (by omega), hq]; simp
    have g10 : IntKind.i64.wrap x1 = x1 := IntWalk.i64_in _ (by omega)
    have g11 : IntKind.i64.wrap x2 = x2 := IntWalk.i64_in _ (by omega)
    have g12 : IntKind.i64.wrap (q : Int) = (q : Int) := IntWalk.i64_in _ (by omega)
    have g3 : IntKind.i64.wrap (x1 * 131) = x1 * 131 := IntWalk.i64_in _ (by omega)
    have g4 : IntKind.i64.wrap (x2 * 1117) = x2 * 1117 := IntWalk.i64_in _ (by omega)
    have g5 : IntKind.i64.wrap (x1 * 131 + x2 * 1117) = x1 * 131 + x2 * 1117 := IntWalk.i64_in _ (by omega)
    have g6 : IntKind.i64.wrap ((k : Int) * 29) = (k : Int) * 29 := IntWalk.i64_in _ (by omega)
    have g7 : IntKind.i64.wrap (x1 * 131 + x2 * 1117 + (k : Int) * 29) = x1 * 131 + x2 * 1117 + (k : Int) * 29 := IntWalk.i64_in _ (by omega)
    have g8 : IntKind.i64.wrap ((q : Int) * 53) = (q : Int) * 53 := IntWalk.i64_in _ (by omega)
    have g9 : IntKind.i64.wrap (x1 * 131 + x2 * 1117 + (k : Int) * 29 + (q : Int) * 53) = x1 * 131 + x2 * 1117 + (k : Int) * 29 + (q : Int) * 53 := IntWalk.i64_in _ (by omega)
    have hX0 : 0 ≤ x1 * 131 + x2 * 1117 + (k : Int) * 29 + (q : Int) * 53 := by omega
    have hX1 : x1 * 131 + x2 * 1117 + (k : Int) * 29 + (q : Int) * 53 ≤ 1000000000 := by omega
    obtain ⟨u1, u2⟩ : (0 : Int) ≤ (i1 : Int) ∧ (i1 : Int) < (bs.length : Int) := by omega
    obtain ⟨u3, u4⟩ : (0 : Int) ≤ (i2 : Int) ∧ (i2 : Int) < (bs.length : Int) := by omega
    have F := Lib.hid (And.intro f1 (And.intro g1 (And.intro g2 (And.intro f2 (And.intro f3 (And.intro g3 (And.intro g4 (And.intro g5 (And.intro g6 (And.intro g7 (And.intro g8 (And.intro g9 (And.intro g10 (And.intro g11 g12))))))))))))))
    clear f1 g1 g2 f2 f3 g3 g4 g5 g6 g7 g8 g9 g10 g11 g12 hi1 hi2 hq hcs Hi1
    have e1 : (w.setCell ⟨g, 1, none⟩ (.int .i64 ((k : Int) + 1))).cell? ⟨b, off + i1, none⟩ = some (.int .u8 x1) := cb1
    have e2 : (w.setCell ⟨g, 1, none⟩ (.int .i64 ((k : Int) + 1))).cell? ⟨b, off + i2, none⟩ = some (.int .u8 x2) := cb2
    generalize hX : x1 * 131 + x2 * 1117 + (k : Int) * 29 + (q : Int) * 53 = X at hX0 hX1
    have HX := Lib.hid hX
    clear hX
    go_enter Try.func19, Try.ntmps19
    go_wp2_with fail
    obtain ⟨f1, g1, g2, f2, f3, g3, g4, g5, g6, g7, g8, g9, g10, g11, g12⟩ := F.out
    (refine wp_region_calm [0,1,2,3,4,5,6,7,8,9,10,11,12,13,14,15,16,17,18,19,20,21,22,23,24,25,26,27,28,29,30,31,32,33,34,35,36,37,38,39,40,41,42,43,44,45] [] (by kernel_rfl) (by kernel_rfl) ?_; (iterate 46 ((refine calm_yes rfl rfl (fun w' hC => (by have d0 := hC.cell d0; have d1 := hC.cell d1; have e1 := hC.cell e1; have e2 := hC.cell e2; go_simp; rfl)) (fun K hK => ?_); go_simp; refine hK _ ?_; clear hK K))); refine calm_done (fun w2 hx2 => ?_))
    clear f1 g1 g2 f2 f3 g3 g4 g5 g6 g7 g8 g9 g10 g11 g12 e1 e2 d0 d1
    rw [HX.out]
    obtain ⟨y0, y1⟩ := i64_xor_nn X (X / 64) hX0 (by omega) (by omega) (by omega)
    have HR2 := Lib.hid (HR1.out.ext hx2)
    have Hg2 := Lib.hid (only_ext Hg1.out hx2)
    generalize hY : bits .xor .i64 X (X / 64) = Y at y0 y1
    clear hx2
    go_wp2_with fail
    go_ret
    exact picked_of (P := below n) (show below n (Y % n) from ⟨Int.emod_nonneg _ (by omega), fun _ => Int.emod_lt_of_pos _ (by omega)⟩) HR2.out (Nat.le_refl _) Hg2.out
set_option maxHeartbeats 1000000 in
theorem c_one (g N : Nat) (A : Option Addr) (cap : Nat) (ns : List Int) (w : World) (h : Rdr w g N) (hN : N + 1 ≤ 1000000) (hi : Ints w A ns) (h0 : 0 < ns.length) (hl : ns.length ≤ 1000) (hne : ∀ b off, A = some ⟨b, off, none⟩ → b ≠ g) :
    Calls Try.prog 41 #[.pointer (some ⟨g, 0, none⟩), .slice A ns.length cap] w fun e w' => Picked w w' e g (N + 1) (fun v => v ∈ ns) := by
  obtain ⟨b, off, rfl, hb, hc⟩ := hi.ints h0
  have hbg := hne b off rfl
  have Hc := Lib.hid hc
  clear hi hc hne
  go_enter Try.func41, Try.ntmps41
  go_wp2_with fail
  refine (c_pick g N ns.length w h hN).mono ?_
  rintro e w1 ⟨v, rfl, hv, hr1, hg1⟩
  obtain ⟨v0, v1⟩ := hv
  have v1 := v1 (by omega)
  obtain ⟨k, rfl⟩ : ∃ k : Nat, v = (k : Int) := ⟨v.toNat, by omega⟩
  have hk : k < ns.length := by omega
  have hcell : w1.cell? ⟨b, off + k, none⟩ = some (.int .i64 ns[k]) := by
    have := Hc.out k hk
    unfold World.cell? at this ⊢
    rw [hg1.block b hb (by intro hh; cases hh; exact hbg rfl)]
    exact this
  have hm := Lib.hid (List.getElem_mem hk)
  have HR := Lib.hid hr1
  have HG := Lib.hid hg1
  generalize ns[k] = x at *
  clear hr1 hg1
  go_wp2_with fail
  go_ret
  exact ⟨x, rfl, hm.out, HR.out, HG.out⟩
end Go.Proofs.Ytalicpgnjpgloaa
