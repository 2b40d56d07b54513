/-
  Paths drawn: the walks of anyPath and DrawValidPath.
-/
import Derived.Test.YtnclnmciaehgeaaRPath
namespace Go.Proofs.Ytnclnmciaehgeaa
open Go Go.RowKit Reg
attribute [local go_sem] calmAt calmUpon
def slLen2 : Value → Nat
  | .slice _ n _ => n
  | _ => 0
set_option maxRecDepth 100000 in
set_option maxHeartbeats 8000000 in
theorem c_anyPath (g N : Nat) (w : World) (h : Rdr w g N) (hN : N + 500 ≤ 1000000) :
    Calls Try.prog 60 #[.pointer (some ⟨g, 0, none⟩)] w fun e w' => DrewVbs w w' e g (N + 500) 100 := by
  have hlt := h.lt
  go_enter Try.func60, Try.ntmps60
  go_wp2_with fail
  refine (c_randomPath g N w h (by omega)).mono ?_
  rintro e w1 ⟨A, cap, vs, ss, rfl, hall, hl, ho1, hr1, hg1⟩
  have O1 := Lib.hid ho1
  have R1 := Lib.hid hr1
  have G1 := Lib.hid hg1
  have Hall := Lib.hid hall
  have hz1 : w.heap.size ≤ w1.heap.size := hg1.size
  clear h ho1 hr1 hg1 hall
  go_wp2_with fail
  refine (c_pick g _ 20 w1 R1.out (by omega)).mono ?_
  rintro e w2 ⟨v, rfl, _, hr2, hg2⟩
  have O2 := Lib.hid (O1.out.keptR R1.out hg2)
  have R2 := Lib.hid hr2
  have G2 := Lib.hid (grown_trans G1.out hg2)
  have hz2 : w.heap.size ≤ w2.heap.size := G2.out.size
  clear hr2 hg2
  by_cases hv0 : v = 0
  · have hb0 : (v == 0) = true := by simp [hv0]
    clear hv0
    go_wp2_with fail
    refine (c_one g _ _ 4 [1, 4, 5, -1] _ (R2.out.ext (ext_alloc _ _)) (by omega) (ints_new w2 _ _ rfl rfl) (by simp) (by simp) (fun b off hA => by cases hA; have := R2.out.lt; omega)).mono ?_
    rintro e w3 ⟨q, rfl, _, hr3, hg3⟩
    have O3 := Lib.hid ((O2.out.ext (ext_alloc _ _)).keptR (R2.out.ext (ext_alloc _ _)) hg3)
    have R3 := Lib.hid hr3
    have G3 := Lib.hid (grown_trans (grown_alloc G2.out _) hg3)
    clear hr3 hg3
    go_wp2_with fail
    refine (c_somePoint g _ w3 R3.out (by omega)).mono ?_
    rintro e w4 ⟨p, rfl, _, hr4, hg4⟩
    have O4 := Lib.hid (O3.out.keptR R3.out hg4)
    have R4 := Lib.hid hr4
    have G4 := Lib.hid (grown_trans G3.out hg4)
    have hz4 : w.heap.size ≤ w4.heap.size := G4.out.size
    clear hr4 hg4
    have P5 : Hid (OV ((w4.alloc (.cells #[.int .i64 p.1, .int .i64 p.2] 33)).alloc (.cells #[.int .i64 q, .slice (some ⟨w4.heap.size, 0, none⟩) 1 1] 31)) w4.heap.size (.slice (some ⟨w4.heap.size + 1, 0, none⟩) 1 1) [(q, [p])] [.slice (some ⟨w4.heap.size, 0, none⟩) 1 1]) := Lib.hid (by
      refine OVb.one_ (own_of_row (n := 1) ((Row.new w4 33 [.int .i64 p.1, .int .i64 p.2]).alloc _) (Nat.le_refl _) rfl (by decide)) ?_
      have r := Row.new (w4.alloc (.cells #[.int .i64 p.1, .int .i64 p.2] 33)) 31 [.int .i64 q, .slice (some ⟨w4.heap.size, 0, none⟩) 1 1]
      have r2 : Row ((w4.alloc (.cells #[.int .i64 p.1, .int .i64 p.2] 33)).alloc (.cells #[.int .i64 q, .slice (some ⟨w4.heap.size, 0, none⟩) 1 1] 31)) (w4.heap.size + 1) 31 [.int .i64 q, .slice (some ⟨w4.heap.size, 0, none⟩) 1 1] := by simpa using r
      exact own_of_row (n := 1) r2 (by omega) rfl (by decide))
    have O5 := Lib.hid ((O4.out.ext (ext_alloc w4 (.cells #[.int .i64 p.1, .int .i64 p.2] 33))).ext (ext_alloc _ (.cells #[.int .i64 q, .slice (some ⟨w4.heap.size, 0, none⟩) 1 1] 31)))
    go_wp2_with (at_builtin; refine wpList_app ei_vb rfl (.tmp 17) (.tmp 18) rfl rfl P5.out.out rfl (O5.out.out.src O5.out.one) (by simp; omega) (by simp; omega) ?_; intro v6 w6 hown6 hg6 hat6)
    obtain ⟨A6, cap6, hv6⟩ := own_form hown6
    have O6 : Hid (OV w6 w.heap.size v6 ([(q, [p])] ++ vs) ([.slice (some ⟨w4.heap.size, 0, none⟩) 1 1] ++ ss)) := Lib.hid (by
      refine OVb.catD (P5.out.rebase hz4) O5.out (Nat.le_refl _) (fun a b ha hb g q1 q2 => ?_) (hown6.rebase hz4) hg6
      have ha0 : a = 0 := by simp at ha; exact ha
      subst ha0
      have r2 := O4.out.old b hb g q2
      simp [Value.ownBlock] at q1
      omega)
    have R6 := Lib.hid (((R4.out.ext (ext_alloc _ _)).ext (ext_alloc _ _)).grown hg6 (fun k hk => by have := P5.out.lt k hk; have := R4.out.lt; omega))
    have G6 := Lib.hid (grown_own (grown_alloc (grown_alloc G4.out _) _) hg6 (fun k hk => by have := P5.out.lt k hk; omega))
    have hv6' : v6 = .slice A6 ([(q, [p])] ++ vs).length cap6 := by rw [hv6, List.length_append]
    have hall6 : Hid (∀ v ∈ [(q, [p])] ++ vs, v.2.length ≤ 41) := Lib.hid (fun v hv => by
      rcases List.mem_append.1 hv with hv | hv
      · simp at hv; subst hv; simp
      · exact Hall.out v hv)
    have hl6 : ([(q, [p])] ++ vs).length ≤ 100 := by rw [List.length_append]; simp; omega
    generalize [(q, [p])] ++ vs = vs6 at *
    clear hown6 hg6 hat6 hv6
    subst hv6'
    go_wp2
    go_ret
    exact ⟨A6, cap6, vs6, _, rfl, hall6.out, hl6, O6.out, R6.out.mono (by omega), G6.out⟩
  · have hb0 : (v == 0) = false := by simp [hv0]
    by_cases hv1 : v = 1
    · have hb1 : (v == 1) = true := by simp [hv1]
      clear hv0 hv1
      go_wp2_with fail
      refine (c_somePoint g _ w2 R2.out (by omega)).mono ?_
      rintro e w4 ⟨p, rfl, _, hr4, hg4⟩
      have O4 := Lib.hid (O2.out.keptR R2.out hg4)
      have R4 := Lib.hid hr4
      have G4 := Lib.hid (grown_trans G2.out hg4)
      have hz4 : w.heap.size ≤ w4.heap.size := G4.out.size
      clear hr4 hg4
      go_wp2_with (at_builtin; refine wpList_app ei_vb rfl (.tmp 22) (.tmp 27) rfl rfl ((O4.out.ext (ext_alloc _ _)).ext (ext_alloc _ _)).out rfl (src_at _ _ [_, _] (m := 1) rfl (by intro u hu; simp at hu; rcases hu with rfl | rfl <;> rfl) (by simp)) (by omega) (by simp; omega) ?_; intro v12 w12 hown12 hg12 hat12)
      obtain ⟨A12, cap12, hv12⟩ := own_form hown12
      have O12 : Hid (OV w12 w.heap.size v12 (vs ++ [(4, [p])]) (ss ++ [.slice (some ⟨w4.heap.size, 0, none⟩) 1 1])) := Lib.hid (OVb.push2 (w := w4) O4.out ((O4.out.ext (ext_alloc _ _)).ext (ext_alloc _ _)) (own_of_row (n := 1) ((Row.new w4 33 [.int .i64 p.1, .int .i64 p.2]).alloc _) hz4 rfl (by decide)) (fun g hg => by simp [Value.ownBlock] at hg; omega) hown12 hg12)
      have R12 := Lib.hid (((R4.out.ext (ext_alloc _ _)).ext (ext_alloc _ _)).grown hg12 (fun k hk => by have := O4.out.lt k hk; omega))
      have G12 := Lib.hid (grown_own (grown_alloc (grown_alloc G4.out _) _) hg12 (fun k hk => O4.out.lt k hk))
      have hv12' : v12 = .slice A12 (vs ++ [(4, [p])]).length cap12 := by rw [hv12, List.length_append]; rfl
      have hall12 : Hid (∀ v ∈ vs ++ [((4 : Int), [p])], v.2.length ≤ 41) := Lib.hid (fun v hv => by
        rcases List.mem_append.1 hv with hv | hv
        · exact Hall.out v hv
        · simp at hv; subst hv; simp)
      have hl12 : (vs ++ [((4 : Int), [p])]).length ≤ vs.length + 1 := by simp
      generalize vs ++ [((4 : Int), [p])] = vs12 at *
      clear hown12 hg12 hat12 hv12
      subst hv12'
      go_wp2
      go_ret
      exact ⟨A12, cap12, vs12, _, rfl, hall12.out, by omega, O12.out, R12.out.mono (by omega), G12.out⟩
    · have hb1 : (v == 1) = false := by simp [hv1]
      by_cases hv2 : v = 2
      · have hb2 : (v == 2) = true := by simp [hv2]
        clear hv0 hv1 hv2
        go_wp2_with fail
        refine (c_anyPoint g _ w2 R2.out (by omega)).mono ?_
        rintro e w4 ⟨p, rfl, _, hr4, hg4⟩
        have O4 := Lib.hid (O2.out.keptR R2.out hg4)
        have R4 := Lib.hid hr4
        have G4 := Lib.hid (grown_trans G2.out hg4)
        have hz4 : w.heap.size ≤ w4.heap.size := G4.out.size
        clear hr4 hg4
        go_wp2_with (at_builtin; refine wpList_app ei_vb rfl (.tmp 31) (.tmp 36) rfl rfl ((O4.out.ext (ext_alloc _ _)).ext (ext_alloc _ _)).out rfl (src_at _ _ [_, _] (m := 1) rfl (by intro u hu; simp at hu; rcases hu with rfl | rfl <;> rfl) (by simp)) (by omega) (by simp; omega) ?_; intro v12 w12 hown12 hg12 hat12)
        obtain ⟨A12, cap12, hv12⟩ := own_form hown12
        have O12 : Hid (OV w12 w.heap.size v12 (vs ++ [(0, [p])]) (ss ++ [.slice (some ⟨w4.heap.size, 0, none⟩) 1 1])) := Lib.hid (OVb.push2 (w := w4) O4.out ((O4.out.ext (ext_alloc _ _)).ext (ext_alloc _ _)) (own_of_row (n := 1) ((Row.new w4 33 [.int .i64 p.1, .int .i64 p.2]).alloc _) hz4 rfl (by decide)) (fun g hg => by simp [Value.ownBlock] at hg; omega) hown12 hg12)
        have R12 := Lib.hid (((R4.out.ext (ext_alloc _ _)).ext (ext_alloc _ _)).grown hg12 (fun k hk => by have := O4.out.lt k hk; omega))
        have G12 := Lib.hid (grown_own (grown_alloc (grown_alloc G4.out _) _) hg12 (fun k hk => O4.out.lt k hk))
        have hv12' : v12 = .slice A12 (vs ++ [(0, [p])]).length cap12 := by rw [hv12, List.length_append]; rfl
        have hall12 : Hid (∀ v ∈ vs ++ [((0 : Int), [p])], v.2.length ≤ 41) := Lib.hid (fun v hv => by
          rcases List.mem_append.1 hv with hv | hv
          · exact Hall.out v hv
          · simp at hv; subst hv; simp)
        have hl12 : (vs ++ [((0 : Int), [p])]).length ≤ vs.length + 1 := by simp
        generalize vs ++ [((0 : Int), [p])] = vs12 at *
        clear hown12 hg12 hat12 hv12
        subst hv12'
        go_wp2
        go_ret
        exact ⟨A12, cap12, vs12, _, rfl, hall12.out, by omega, O12.out, R12.out.mono (by omega), G12.out⟩
      · have hb2 : (v == 2) = false := by simp [hv2]
        by_cases hv3 : v = 3
        · have hb3 : (v == 3) = true := by simp [hv3]
          clear hv0 hv1 hv2 hv3
          go_wp2_with fail
          go_loopw [3] (fun v wr => ∃ (A : Option Addr) (cap : Nat) (vs : List Vb) (ss : List Value), v = .slice A vs.length cap ∧ vs.length ≤ 31 ∧ (∀ v ∈ vs, v.2.length ≤ 41) ∧ OV wr w.heap.size v vs ss ∧ Rdr wr g (N + 200 + 1 + 3 * vs.length) ∧ w.grownBy wr (some g)) (fun v _ => 40 - slLen2 v)
          case atStart => exact ⟨A, cap, vs, ss, rfl, by omega, Hall.out, O2.out, R2.out.mono (by omega), G2.out⟩
          case round =>
            obtain ⟨A3, cap3, vs3, ss3, rfl, hl3, hall3, hov3, hrd3, hgr3⟩ := hrel
            have O3 := Lib.hid hov3
            have R3 := Lib.hid hrd3
            have G3 := Lib.hid hgr3
            have Hall3 := Lib.hid hall3
            clear hov3 hrd3 hgr3 hall3
            go_wp2_with fail
            refine (c_pick g _ 2 wr R3.out (by omega)).mono ?_
            rintro e w5 ⟨v5, rfl, ⟨a0, a1⟩, hr5, hg5⟩
            have a1 := a1 (by decide)
            have O5 := Lib.hid (O3.out.keptR R3.out hg5)
            have R5 := Lib.hid hr5
            have G5 := Lib.hid (grown_trans G3.out hg5)
            clear hr5 hg5
            by_cases hlt3 : (vs3.length : Int) < 30 + v5
            · go_wp2_with fail
              refine (c_somePoint g _ w5 R5.out (by omega)).mono ?_
              rintro e w4 ⟨p, rfl, _, hr4, hg4⟩
              have O4 := Lib.hid (O5.out.keptR R5.out hg4)
              have R4 := Lib.hid hr4
              have G4 := Lib.hid (grown_trans G5.out hg4)
              have hz4 : w.heap.size ≤ w4.heap.size := G4.out.size
              clear hr4 hg4
              go_wp2_with (at_builtin; refine wpList_app ei_vb rfl (.tmp 46) (.tmp 51) rfl rfl ((O4.out.ext (ext_alloc _ _)).ext (ext_alloc _ _)).out rfl (src_at _ _ [_, _] (m := 1) rfl (by intro u hu; simp at hu; rcases hu with rfl | rfl <;> rfl) (by simp)) (by omega) (by simp; omega) ?_; intro v12 w12 hown12 hg12 hat12)
              obtain ⟨A12, cap12, hv12⟩ := own_form hown12
              have O12 : Hid (OV w12 w.heap.size v12 (vs3 ++ [(0, [p])]) (ss3 ++ [.slice (some ⟨w4.heap.size, 0, none⟩) 1 1])) := Lib.hid (OVb.push2 (w := w4) O4.out ((O4.out.ext (ext_alloc _ _)).ext (ext_alloc _ _)) (own_of_row (n := 1) ((Row.new w4 33 [.int .i64 p.1, .int .i64 p.2]).alloc _) hz4 rfl (by decide)) (fun g hg => by simp [Value.ownBlock] at hg; omega) hown12 hg12)
              have R12 := Lib.hid (((R4.out.ext (ext_alloc _ _)).ext (ext_alloc _ _)).grown hg12 (fun k hk => by have := O4.out.lt k hk; omega))
              have G12 := Lib.hid (grown_own (grown_alloc (grown_alloc G4.out _) _) hg12 (fun k hk => O4.out.lt k hk))
              have hv12' : v12 = .slice A12 (vs3 ++ [(0, [p])]).length cap12 := by rw [hv12, List.length_append]; rfl
              have hall12 : Hid (∀ v ∈ vs3 ++ [((0 : Int), [p])], v.2.length ≤ 41) := Lib.hid (fun v hv => by
                rcases List.mem_append.1 hv with hv | hv
                · exact Hall3.out v hv
                · simp at hv; subst hv; simp)
              have hl12 : (vs3 ++ [((0 : Int), [p])]).length ≤ vs3.length + 1 ∧ vs3.length + 1 ≤ (vs3 ++ [((0 : Int), [p])]).length := by simp
              generalize vs3 ++ [((0 : Int), [p])] = vs12 at *
              clear hown12 hg12 hat12 hv12
              subst hv12'
              obtain ⟨hl12a, hl12b⟩ := hl12
              go_wp2
              go_roundw
              case rel => exact ⟨A12, cap12, vs12, _, rfl, by omega, hall12.out, O12.out, R12.out.mono (by omega), G12.out⟩
              case measure => simp [slLen2]; omega
            · go_wp2
              go_ret
              exact ⟨A3, cap3, vs3, ss3, rfl, Hall3.out, by omega, O5.out, R5.out.mono (by omega), G5.out⟩
        · have hb3 : (v == 3) = false := by simp [hv3]
          go_wp2
          go_ret
          exact ⟨A, cap, vs, ss, rfl, Hall.out, by omega, O2.out, R2.out.mono (by omega), G2.out⟩
/-- Verbs in rows of one's own. -/
def OwnVbs (w w' : World) (e : Ending) : Prop := ∃ A cap, ∃ vs : List Vb, ∃ ss, e = .returned (.slice A vs.length cap) ∧ (∀ v ∈ vs, v.2.length ≤ 41) ∧ vs.length ≤ 100 ∧ OV w' w.heap.size (.slice A vs.length cap) vs ss ∧ Below w.heap.size w w'
set_option maxHeartbeats 1000000 in
theorem c_DrawRingsOf (A : Option Addr) (cap : Nat) (bs : List Int) (w : World) (h : In byteR 1 w A bs) (hc : bs.length ≤ cap) (hl : cap ≤ 9223372036854775807) :
    Calls Try.prog 16 #[.slice A bs.length cap] w fun e w' => OwnVbs w w' e := by
  go_enter Try.func16, Try.ntmps16
  go_wp2_with fail
  refine (c_newReader A cap bs w h hc hl).mono ?_
  rintro e w1 ⟨g, rfl, hg0, hr1, hb1⟩
  have R1 := Lib.hid hr1
  have B1 := Lib.hid hb1
  clear hr1 hb1 h
  go_wp2_with fail
  refine (c_anyPath g 0 w1 R1.out (by omega)).mono ?_
  rintro e w2 ⟨A2, cap2, vs, ss, rfl, hall, hlen, ho2, hr2, hg2⟩
  have B2 := Lib.hid (below_grown B1.out hg2 hg0 B1.out.size)
  have O2 := Lib.hid ho2
  have Hall := Lib.hid hall
  clear hr2 hg2 ho2 hall
  go_wp2_with fail
  go_ret
  exact ⟨A2, cap2, vs, ss, rfl, Hall.out, hlen, O2.out.rebase B1.out.size, B2.out⟩
end Go.Proofs.Ytnclnmciaehgeaa
