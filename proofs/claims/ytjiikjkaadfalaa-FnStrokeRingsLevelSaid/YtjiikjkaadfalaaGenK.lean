/-
  Lines and widths drawn: the walk of the reference's generator.
-/
import Derived.Test.YtjiikjkaadfalaaGen
import Derived.Test.YtjiikjkaadfalaaOrg
import Derived.Test.YtjiikjkaadfalaaStep
namespace Go.Proofs.Ytjiikjkaadfalaa
open Go Go.RowKit Reg
attribute [local go_sem] calmAt calmUpon
/-- What is drawn for strokes. -/
def RetStkD (w : World) (e : Ending) (w' : World) : Prop := ∃ (A' : Option Addr) (cap' : Nat) (r : List Pt) (half : Int), e = .returned (.tuple #[.slice A' r.length cap', .int .i64 half]) ∧ r.length ≤ 9 ∧ Has w' w.heap.size 36 2 (.slice A' r.length cap') r.length (r.flatMap ptC) ∧ Below w.heap.size w w'
set_option maxRecDepth 100000 in
set_option maxHeartbeats 4000000 in
theorem c_DrawStrokeRings (A : Option Addr) (cap : Nat) (bs : List Int) (w : World) (h : In byteR 1 w A bs) (hc : bs.length ≤ cap) (hl : cap ≤ 9223372036854775807) :
    Calls Try.prog 12 #[.slice A bs.length cap] w (RetStkD w) := by
  go_enter Try.func12, Try.ntmps12
  go_wp2_with fail
  refine (c_newReader A cap bs w h hc hl).mono ?_
  rintro e w1 ⟨g, rfl, hg0, hr1, hb1⟩
  have D := Lib.hid hr1
  have B := Lib.hid hb1
  have hz1 : w.heap.size ≤ w1.heap.size := hb1.size
  clear hr1 hb1 h
  have G : Hid (w1.grownBy w1 (some g)) := Lib.hid (only_refl _ _)
  have hgl := D.out.lt
  go_wp2_with fail
  first | refine gen_calls ?_ | refine gen_code ?_ | refine gen_list ?_
  intro w2 hW
  obtain ⟨hb, hR1, hR2⟩ := new2 hW
  clear hW
  replace D := Lib.hid (D.out.ext hb)
  replace G := Lib.hid (grown_trans G.out (grown_ext hb))
  clear hb
  have R1 := Lib.hid hR1
  have lR1 := R1.out.lt
  clear hR1
  have R2 := Lib.hid hR2
  have lR2 := R2.out.lt
  clear hR2
  have O := Lib.hid (own_of_row (n := 0) (B := w1.heap.size) (sz := 2) R1.out (Nat.le_refl _) rfl (by decide))
  have I2 := Lib.hid (Row.in_ (rest := []) (enc := intC) (xs := [2, 3, 4, 1, 0, 8, 9]) (sz := 1) (R := intR) (fun _ => rfl) (by simpa [intC] using R2.out) (fun _ _ => rfl))
  clear R1 R2
  go_wp2_with fail
  refine (c_one g _ _ 7 [2, 3, 4, 1, 0, 8, 9] _ D.out (by omega) I2.out (by simp) (by simp) (fun b off hA => by cases hA; omega)).mono ?_
  rintro e w3 ⟨v3, rfl, hv3, hr, hg⟩
  replace G := Lib.hid (grown_trans G.out hg)
  replace O := Lib.hid (O.out.keptR D.out PT_ne_RD hg)
  replace D := Lib.hid hr
  clear hr hg
  have hv3 : 0 ≤ v3 ∧ v3 ≤ 9 := by simp at hv3; omega
  obtain ⟨M, rfl⟩ : ∃ L : Nat, v3 = (L : Int) := ⟨v3.toNat, by omega⟩
  clear I2
  go_wp2_with fail
  go_loopw [5, 6] (fun v n wr => ∃ (m : Nat) (A : Option Addr) (cap : Nat) (ps : List Pt), n = .int .i64 m ∧ v = .slice A ps.length cap ∧ ps.length + m ≤ 9 ∧ Has wr w1.heap.size 36 2 (.slice A ps.length cap) ps.length (ps.flatMap ptC) ∧ Rdr wr g (1 + 5 * (9 - m)) ∧ w1.grownBy wr (some g)) (fun _ n _ => (intOf n).toNat)
  case atStart => exact ⟨M, _, 0, [], rfl, rfl, by simp; omega, O.out, D.out.mono (by omega), G.out⟩
  case round =>
    obtain ⟨m, A2, cap2, ps, rfl, rfl, hm, how, hrd, hgr⟩ := hrel
    clear O D G
    have O := Lib.hid how
    have D := Lib.hid hrd
    have G := Lib.hid hgr
    have hzr : w1.heap.size ≤ wr.heap.size := hgr.size
    have hgl2 := hrd.lt
    clear how hrd hgr
    by_cases h0 : 0 < m
    · have h0I : decide ((0 : Int) < (m : Int)) = true := by simp; omega
      go_wp2_with fail
      refine (c_anyPoint g _ _ D.out (by omega)).mono ?_
      rintro e w4 ⟨⟨qx, qy⟩, rfl, _, hr, hg⟩
      replace G := Lib.hid (grown_trans G.out hg)
      replace O := Lib.hid (O.out.keptR D.out PT_ne_RD hg)
      replace D := Lib.hid hr
      clear hr hg
      have hgl3 := D.out.lt
      have hz4 : w1.heap.size ≤ w4.heap.size := G.out.size
      have OB : Hid (∀ k, (Value.slice A2 ps.length cap2).ownBlock = some k → k ≠ w4.heap.size) := Lib.hid (fun k hk => by have := (O.out.lt k hk).2; omega)
      by_cases hpos : 0 < ps.length
      · have hposI : decide ((0 : Int) < (ps.length : Int)) = true := by simp; omega
        go_wp2_with fail
        first | refine gen_calls ?_ | refine gen_code ?_ | refine gen_list ?_
        intro w5 hW
        obtain ⟨hb, hP⟩ := new1 hW
        clear hW
        replace D := Lib.hid (D.out.ext hb)
        replace G := Lib.hid (grown_trans G.out (grown_ext hb))
        replace O := Lib.hid (own_ext O.out hb)
        clear hb
        have P := Lib.hid hP
        have lP := P.out.lt
        clear hP
        have hPg : w4.heap.size ≠ g := by omega
        have P5 := Lib.hid P.out
        have lP := P.out.lt
        have hO : ∀ k, (Value.slice A2 ps.length cap2).ownBlock = some k → k ≠ w4.heap.size := OB.out
        go_wp2_with fail
        refine (c_pick g _ 3 _ D.out (by omega)).mono ?_
        rintro e w6 ⟨v, rfl, _, hr, hg⟩
        replace G := Lib.hid (grown_trans G.out hg)
        replace O := Lib.hid (O.out.keptR D.out PT_ne_RD hg)
        replace P := Lib.hid (P.out.keptR hg (by omega))
        have lP := P.out.lt
        replace D := Lib.hid hr
        clear hr hg
        have hz6 : w1.heap.size ≤ w6.heap.size := G.out.size
        by_cases hv0 : v = 0
        · have hb0 : (v == 0) = true := by simp [hv0]
          clear hv0
          obtain ⟨go, hgo, hgo1, hgo2⟩ := own_at O.out hpos
          subst hgo
          have hl1 := O.out.1
          obtain ⟨M1, hM1⟩ : ∃ M1, M1 = ps.length - 1 := ⟨_, rfl⟩
          have hM2 : M1 < ps.length := by omega
          have hM3 : M1 + 1 = ps.length := by omega
          have ay := O.out.cellAt (M1 * 2 + 1) (by omega)
          have fy := flat_get ptC_len ps [] M1 hM2 1 (by omega)
          rw [List.append_nil] at fy
          have cy : w6.cell? ⟨go, M1 * 2 + 1, none⟩ = some (.int .i64 ps[M1].2) := by rw [ay]; exact fy
          have g1 : IntKind.i64.wrap ((ps.length : Int) - 1) = (M1 : Int) := by rw [IntWalk.i64_in _ (by omega)]; omega
          have hMI : (M1 : Int) < (ps.length : Int) := by omega
          generalize ps[M1].2 = Y at *
          have c0 := P.out.cell_of (i := 0) rfl
          have c1 := P.out.cell_of (i := 1) rfl
          have z0 := P.out.frozen 0
          have z1 := P.out.frozen 1
          clear ay fy hM1 hM3
          go_wp2_with (at_builtin; refine stop_in ?_)
          refine stop_out ?_
          refine gen_list (fun W hW => ?_)
          obtain ⟨w7, hw7⟩ : ∃ w7, w6.setCell ⟨w4.heap.size, 1, none⟩ (.int .i64 Y) = w7 := ⟨_, rfl⟩
          have sg : w6.grownBy w7 (some w4.heap.size) := by rw [← hw7]; exact ⟨rfl, rfl, rfl, by simp [World.setCell], fun k _ hk => Below.heap_setCell w6 ⟨w4.heap.size, 1, none⟩ (.int .i64 Y) k (by rintro rfl; exact hk rfl)⟩
          have O7 := O.out.kept sg (.inr (fun e => hO go rfl (by simpa [Value.ownBlock] using e)))
          have D7 := D.out.far (p := ⟨w4.heap.size, 1, none⟩) hgl3 (.int .i64 Y)
          have G7 := grown_far G.out (p := ⟨w4.heap.size, 1, none⟩) hz4 (.int .i64 Y)
          rw [hw7] at D7 G7 hW
          obtain ⟨E6, r1⟩ := new1 (c1 := [_, _]) hW
          have hz7 : w7.heap.size = w6.heap.size := by rw [← hw7]; simp [World.setCell]
          rw [hz7] at r1
          replace O := Lib.hid (own_ext O7 E6)
          replace D := Lib.hid (D7.ext E6)
          replace G := Lib.hid (grown_trans G7 (grown_ext E6))
          have hzW : w1.heap.size ≤ W.heap.size := G.out.size
          clear hW hw7 hz7 sg O7 D7 G7 E6
          refine wpList_app (base := w1.heap.size) ei_pt rfl (.tmp 36) (.tmp 38) rfl rfl O.out rfl ((own_of_row (B := 0) (sz := 2) (n := 1) r1 (by omega) rfl (by decide)).src (by intro u hu; simp only [List.mem_cons, List.not_mem_nil, or_false] at hu; rcases hu with rfl | rfl <;> rfl)) (by omega) (by omega) ?_
          intro ve we hown hg hat
          obtain ⟨A3, cap3, hve⟩ := own_form hown
          have D9 := Lib.hid (D.out.grown hg (fun k hk => by have := (O.out.lt k hk).1; omega))
          have G9 := Lib.hid (grown_own G.out hg (fun k hk => (O.out.lt k hk).1))
          have O9 : Hid (Has we w1.heap.size 36 2 (.slice A3 (ps ++ [(qx, Y)]).length cap3) (ps ++ [(qx, Y)]).length ((ps ++ [(qx, Y)]).flatMap ptC)) := Lib.hid (by
            rw [hve] at hown; rw [List.length_append, List.flatMap_append]; exact hown)
          have hv4 : ve = .slice A3 (ps.length + 1) cap3 := hve
          clear hown hg hat hve r1
          subst hv4
          clear O D G
          go_wp2
          go_roundw
          case rel => exact ⟨m - 1, A3, cap3, ps ++ [(qx, Y)], by go_num, by rw [List.length_append]; rfl, by simp; omega, O9.out, D9.out.mono (by omega), G9.out⟩
          case measure => simp [intOf]; omega
        · have hb0 : (v == 0) = false := by simp [hv0]
          have p0 := P.out.cell_of (i := 0) rfl
          have p1 := P.out.cell_of (i := 1) rfl
          go_wp2_with (at_builtin; refine wpList_app (base := w1.heap.size) ei_pt rfl (.tmp 36) (.tmp 38) rfl rfl (own_ext O.out (ext_alloc _ _)) rfl (src_new _ _ [_, _] (m := 1) rfl (by intro u hu; simp only [List.mem_cons, List.not_mem_nil, or_false] at hu; rcases hu with rfl | rfl <;> rfl)) (by omega) (by simp; omega) ?_; intro ve w10 hown hg hat; refine stop_in ?_)
          refine stop_out ?_
          obtain ⟨A3, cap3, hve⟩ := own_form hown
          clear p0 p1
          replace D := Lib.hid ((D.out.ext (ext_alloc _ _)).grown hg (fun k hk => by have := (O.out.lt k hk).1; omega))
          replace G := Lib.hid (grown_own (only_ext G.out (ext_alloc _ _)) hg (fun k hk => (O.out.lt k hk).1))
          have heq : ps ++ [(qx, qy)] = (ps ++ [(qx, qy)]) := rfl
          replace O : Hid (Has w10 w1.heap.size 36 2 (.slice A3 ((ps ++ [(qx, qy)])).length cap3) ((ps ++ [(qx, qy)])).length (((ps ++ [(qx, qy)])).flatMap ptC)) := Lib.hid (by
            have q := hown
            rw [hve] at q
            rw [← heq, List.flatMap_append, List.length_append]
            exact q)
          have hvf : ve = .slice A3 ((ps ++ [(qx, qy)])).length cap3 := by rw [hve, ← heq, List.length_append]; rfl
          clear hve
          clear hown hg hat heq
          subst hvf
          go_wp2
          go_roundw
          case rel => exact ⟨m - 1, A3, cap3, ps ++ [(qx, qy)], by go_num, rfl, by simp; omega, O.out, D.out.mono (by omega), G.out⟩
          case measure => simp [intOf]; omega
      · have hps : ps = [] := List.eq_nil_of_length_eq_zero (by omega)
        have hposI : decide ((0 : Int) < (ps.length : Int)) = false := by simp; omega
        have Hps := Lib.hid hps
        clear hps
        generalize qy = Y at *
        go_wp2_with (at_builtin; refine stop_in ?_)
        refine stop_out ?_
        refine gen_list ?_
        intro W hW
        obtain ⟨hb, hP, hr1⟩ := new2 hW
        clear hW
        replace D := Lib.hid (D.out.ext hb)
        replace G := Lib.hid (grown_trans G.out (grown_ext hb))
        replace O := Lib.hid (own_ext O.out hb)
        clear hb
        have P := Lib.hid hP
        have lP := P.out.lt
        clear hP
        have r1 := Lib.hid hr1
        have lr1 := r1.out.lt
        clear hr1
        have r1 := r1.out
        have hzW : w1.heap.size ≤ W.heap.size := G.out.size
        refine wpList_app (base := w1.heap.size) ei_pt rfl (.tmp 36) (.tmp 38) rfl rfl O.out rfl ((own_of_row (B := 0) (sz := 2) (n := 1) r1 (by omega) rfl (by decide)).src (by intro u hu; simp only [List.mem_cons, List.not_mem_nil, or_false] at hu; rcases hu with rfl | rfl <;> rfl)) (by omega) (by omega) ?_
        intro ve we hown hg hat
        obtain ⟨A3, cap3, hve⟩ := own_form hown
        have D9 := Lib.hid (D.out.grown hg (fun k hk => by have := (O.out.lt k hk).1; omega))
        have G9 := Lib.hid (grown_own G.out hg (fun k hk => (O.out.lt k hk).1))
        have O9 : Hid (Has we w1.heap.size 36 2 (.slice A3 (ps ++ [(qx, Y)]).length cap3) (ps ++ [(qx, Y)]).length ((ps ++ [(qx, Y)]).flatMap ptC)) := Lib.hid (by
          rw [hve] at hown; rw [List.length_append, List.flatMap_append]; exact hown)
        have hv4 : ve = .slice A3 (ps.length + 1) cap3 := hve
        clear hown hg hat hve r1
        subst hv4
        clear O D G
        go_wp2
        go_roundw
        case rel => exact ⟨m - 1, A3, cap3, ps ++ [(qx, Y)], by go_num, by rw [List.length_append]; rfl, by simp; omega, O9.out, D9.out.mono (by omega), G9.out⟩
        case measure => simp [intOf]; omega
    · obtain rfl : m = 0 := by omega
      have h0I : decide ((0 : Int) < ((0 : Nat) : Int)) = false := by simp
      have hgl3 := D.out.lt
      go_wp2_with fail
      first | refine gen_calls ?_ | refine gen_code ?_ | refine gen_list ?_
      intro w4 hW
      obtain ⟨hb, hR2⟩ := new1 hW
      clear hW
      replace D := Lib.hid (D.out.ext hb)
      replace G := Lib.hid (grown_trans G.out (grown_ext hb))
      replace O := Lib.hid (own_ext O.out hb)
      clear hb
      have R2 := Lib.hid hR2
      have lR2 := R2.out.lt
      clear hR2
      have I2 := Lib.hid (Row.in_ (rest := []) (enc := intC) (xs := [8, 16, 1, 5, 100, 101, 0]) (sz := 1) (R := intR) (fun _ => rfl) (by simpa [intC] using R2.out) (fun _ _ => rfl))
      clear R2
      go_wp2_with fail
      refine (c_one g _ _ 7 [8, 16, 1, 5, 100, 101, 0] _ D.out (by omega) I2.out (by simp) (by simp) (fun b off hA => by cases hA; omega)).mono ?_
      rintro e w5 ⟨v5, rfl, hv5, hr, hg⟩
      replace G := Lib.hid (grown_trans G.out hg)
      replace O := Lib.hid (O.out.keptR D.out PT_ne_RD hg)
      replace D := Lib.hid hr
      clear hr hg
      clear I2 hv5
      go_wp2
      go_ret2
      exact ⟨A2, cap2, ps, v5, rfl, by omega, O.out.rebase hz1, below_grown B.out G.out hg0 B.out.size⟩
end Go.Proofs.Ytjiikjkaadfalaa
