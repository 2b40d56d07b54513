/-
  The parts of a row that are inside: the reference's walk.
-/
import Derived.Test.YteknlifgejpjfaaCrsT
namespace Go.Proofs.Yteknlifgejpjfaa
open Go Go.RowKit Reg
attribute [local go_sem] calmAt calmUpon
/-- Crossings within a row. -/
def CrsOk (cs : List Pt) : Prop := ∀ c ∈ cs, (0 ≤ c.1 ∧ c.1 ≤ 48) ∧ (-1 ≤ c.2 ∧ c.2 ≤ 1)
theorem runsS_bd {cs : List Pt} {rule : Int} (h : CrsOk cs) : ∀ i, i ≤ cs.length → (runsS cs rule i).1.length ≤ i ∧ (-(i : Int) ≤ (runsS cs rule i).2.1 ∧ (runsS cs rule i).2.1 ≤ i) ∧ (-1 ≤ (runsS cs rule i).2.2 ∧ (runsS cs rule i).2.2 ≤ 48)
  | 0, _ => by simp [runsS]
  | i + 1, hi => by
    obtain ⟨h1, ⟨h2, h3⟩, h4, h5⟩ := runsS_bd (rule := rule) h i (by omega)
    have hc := h cs[i] (List.getElem_mem (by omega))
    rw [runsS, getD_cs (show i < cs.length by omega)]
    split
    · dsimp only; omega
    · split
      · dsimp only; rw [List.length_append, List.length_singleton]; omega
      · dsimp only; omega
theorem runsS_next {cs : List Pt} {rule : Int} {i : Nat} (hi : i < cs.length) {fs : List Pt} {n f : Int} (h : runsS cs rule i = (fs, n, f)) :
    runsS cs rule (i + 1) = if lstB cs i && (decide (f < 0) && (insB (n + cs[i].2) rule && decide (cs[i].1 < 48))) then (fs, n + cs[i].2, cs[i].1)
      else if lstB cs i && (decide (0 ≤ f) && !insB (n + cs[i].2) rule) then (fs ++ [(f, cs[i].1)], n + cs[i].2, -1) else (fs, n + cs[i].2, f) := by
  rw [runsS, getD_cs hi, h]
set_option maxRecDepth 100000 in
set_option maxHeartbeats 16000000 in
theorem c_sspans (A : Option Addr) (cap : Nat) (cs : List Pt) (rule : Int) (w : World) (h : Pts w A cs) (hl : cs.length ≤ 1000) (hok : CrsOk cs) :
    Calls Try.prog 30 #[.slice A cs.length cap, .int .i64 rule] w fun e w' => RetP 53 w (runsE cs rule) e w' := by
  have H := Lib.hid h
  have Hok := Lib.hid hok
  obtain ⟨S, hS⟩ : ∃ S, runsE cs rule = S := ⟨_, rfl⟩
  rw [hS]
  have HS := Lib.hid hS
  clear h hok hS
  have E := Lib.hid (Below.refl w.heap.size w)
  go_enter Try.func30, Try.ntmps30
  go_wp2_with fail
  first | refine gen_calls ?_ | refine gen_code ?_ | refine gen_list ?_
  intro w1 hW
  obtain ⟨hb, hZ⟩ := new1 hW
  clear hW
  replace E := Lib.hid (Ext.trans E.out hb)
  clear hb
  have Z := Lib.hid hZ
  have lZ := Z.out.lt
  clear hZ
  have O := Lib.hid (own_of_row (n := 0) (B := w.heap.size) (sz := 2) Z.out (by omega) rfl (by decide))
  clear Z lZ
  go_wp2_with fail
  go_loopw [5, 6, 7, 8, 9] (fun o n f iv _ wr => ∃ (i : Nat) (A1 : Option Addr) (cap1 : Nat) (fs : List Pt) (nn ff : Int), i ≤ cs.length ∧ iv = .int .i64 i ∧ o = .slice A1 fs.length cap1 ∧ n = .int .i64 nn ∧ f = .int .i64 ff ∧ runsS cs rule i = (fs, nn, ff) ∧ Has wr w.heap.size 53 2 (.slice A1 fs.length cap1) fs.length (fs.flatMap ptC) ∧ Below w.heap.size w wr) (fun _ _ _ iv _ _ => cs.length - (intOf iv).toNat)
  case atStart => exact ⟨0, _, 0, [], 0, -1, Nat.zero_le _, rfl, rfl, rfl, rfl, rfl, O.out, E.out⟩
  case round =>
    obtain ⟨i, A2, cap2, fs, n, f, hi, rfl, rfl, rfl, rfl, hr, ho, hbw⟩ := hrel
    clear O E
    have O := Lib.hid ho
    have E := Lib.hid hbw
    have hzr : w.heap.size ≤ wr.heap.size := hbw.size
    obtain ⟨b1, ⟨b2, b3⟩, b4, b5⟩ := runsS_bd (rule := rule) Hok.out i hi
    rw [hr] at b1 b2 b3 b4 b5
    dsimp only at b1 b2 b3 b4 b5
    have Hr := Lib.hid hr
    clear ho hbw hr
    by_cases hlt : i < cs.length
    · have HN := Lib.hid (runsS_next hlt Hr.out)
      obtain ⟨b, off, hA, _, hc⟩ := (H.out.ext ptR_stab E.out).pts (by omega)
      subst hA
      obtain ⟨cx, cy⟩ := hc i hlt
      obtain ⟨⟨k1, k2⟩, k3, k4⟩ := Hok.out cs[i] (List.getElem_mem hlt)
      have v1 : (i : Int) < (cs.length : Int) := by omega
      have v1d : decide ((i : Int) < (cs.length : Int)) = true := decide_eq_true v1
      obtain ⟨j, hj⟩ : ∃ j, j = i + 1 := ⟨_, rfl⟩
      have g1 : IntKind.i64.wrap ((i : Int) + 1) = (j : Int) := by rw [IntWalk.i64_in _ (by omega)]; omega
      have HJ := Lib.hid hj
      by_cases hlast : i + 1 = cs.length
      · have hls : lstB cs i = true := by unfold lstB; simp [hlast]
        rw [hls] at HN
        have e1 : ((j : Int) == (cs.length : Int)) = true := by simp; omega
        clear hc hls
        generalize cs[i] = c at *
        obtain ⟨c1, c2⟩ := c
        dsimp only at k1 k2 k3 k4 HN cx cy
        obtain ⟨m, hm⟩ : ∃ m, m = n + c2 := ⟨_, rfl⟩
        rw [← hm] at HN
        obtain ⟨ib, hib⟩ : ∃ ib, insB m rule = ib := ⟨_, rfl⟩
        rw [hib] at HN
        have Hib := Lib.hid hib
        have gm : IntKind.i64.wrap (n + c2) = m := by rw [IntWalk.i64_in _ (by omega)]; exact hm.symm
        have hmb : -2000 ≤ m ∧ m ≤ 2000 := by omega
        obtain ⟨hm1, hm2⟩ := hmb
        have Cx := Lib.hid cx
        have Cy := Lib.hid cy
        clear cx cy hib hm
        have HL := Lib.hid hlast
        clear hlast hj
        have cCx := Cx.out
        have cCy := Cy.out
        go_wp2_with fail
        refine wp_region_calm [0,1,2,3,4,5,6,7,8,9,10,11,12,13,14,15,16,17,18,19] [] (by kernel_rfl) (by kernel_rfl) ?_
        (first | (refine calm_yes rfl rfl (fun w' hC => (by have cCx := hC.cell cCx; have cCy := hC.cell cCy; go_simp; rfl)) (fun K hK => ?_); go_simp; refine hK _ ?_; clear hK K) | (refine calm_no rfl rfl (fun K hK => ?_); go_simp; refine hK _ ?_; clear hK K))
        (first | (refine calm_yes rfl rfl (fun w' hC => (by have cCx := hC.cell cCx; have cCy := hC.cell cCy; go_simp; rfl)) (fun K hK => ?_); go_simp; refine hK _ ?_; clear hK K) | (refine calm_no rfl rfl (fun K hK => ?_); go_simp; refine hK _ ?_; clear hK K))
        (first | (refine calm_yes rfl rfl (fun w' hC => (by have cCx := hC.cell cCx; have cCy := hC.cell cCy; go_simp; rfl)) (fun K hK => ?_); go_simp; refine hK _ ?_; clear hK K) | (refine calm_no rfl rfl (fun K hK => ?_); go_simp; refine hK _ ?_; clear hK K))
        (first | (refine calm_yes rfl rfl (fun w' hC => (by have cCx := hC.cell cCx; have cCy := hC.cell cCy; go_simp; rfl)) (fun K hK => ?_); go_simp; refine hK _ ?_; clear hK K) | (refine calm_no rfl rfl (fun K hK => ?_); go_simp; refine hK _ ?_; clear hK K))
        (first | (refine calm_yes rfl rfl (fun w' hC => (by have cCx := hC.cell cCx; have cCy := hC.cell cCy; go_simp; rfl)) (fun K hK => ?_); go_simp; refine hK _ ?_; clear hK K) | (refine calm_no rfl rfl (fun K hK => ?_); go_simp; refine hK _ ?_; clear hK K))
        (first | (refine calm_yes rfl rfl (fun w' hC => (by have cCx := hC.cell cCx; have cCy := hC.cell cCy; go_simp; rfl)) (fun K hK => ?_); go_simp; refine hK _ ?_; clear hK K) | (refine calm_no rfl rfl (fun K hK => ?_); go_simp; refine hK _ ?_; clear hK K))
        (first | (refine calm_yes rfl rfl (fun w' hC => (by have cCx := hC.cell cCx; have cCy := hC.cell cCy; go_simp; rfl)) (fun K hK => ?_); go_simp; refine hK _ ?_; clear hK K) | (refine calm_no rfl rfl (fun K hK => ?_); go_simp; refine hK _ ?_; clear hK K))
        (first | (refine calm_yes rfl rfl (fun w' hC => (by have cCx := hC.cell cCx; have cCy := hC.cell cCy; go_simp; rfl)) (fun K hK => ?_); go_simp; refine hK _ ?_; clear hK K) | (refine calm_no rfl rfl (fun K hK => ?_); go_simp; refine hK _ ?_; clear hK K))
        (first | (refine calm_yes rfl rfl (fun w' hC => (by have cCx := hC.cell cCx; have cCy := hC.cell cCy; go_simp; rfl)) (fun K hK => ?_); go_simp; refine hK _ ?_; clear hK K) | (refine calm_no rfl rfl (fun K hK => ?_); go_simp; refine hK _ ?_; clear hK K))
        (first | (refine calm_yes rfl rfl (fun w' hC => (by have cCx := hC.cell cCx; have cCy := hC.cell cCy; go_simp; rfl)) (fun K hK => ?_); go_simp; refine hK _ ?_; clear hK K) | (refine calm_no rfl rfl (fun K hK => ?_); go_simp; refine hK _ ?_; clear hK K))
        (first | (refine calm_yes rfl rfl (fun w' hC => (by have cCx := hC.cell cCx; have cCy := hC.cell cCy; go_simp; rfl)) (fun K hK => ?_); go_simp; refine hK _ ?_; clear hK K) | (refine calm_no rfl rfl (fun K hK => ?_); go_simp; refine hK _ ?_; clear hK K))
        (first | (refine calm_yes rfl rfl (fun w' hC => (by have cCx := hC.cell cCx; have cCy := hC.cell cCy; go_simp; rfl)) (fun K hK => ?_); go_simp; refine hK _ ?_; clear hK K) | (refine calm_no rfl rfl (fun K hK => ?_); go_simp; refine hK _ ?_; clear hK K))
        (first | (refine calm_yes rfl rfl (fun w' hC => (by have cCx := hC.cell cCx; have cCy := hC.cell cCy; go_simp; rfl)) (fun K hK => ?_); go_simp; refine hK _ ?_; clear hK K) | (refine calm_no rfl rfl (fun K hK => ?_); go_simp; refine hK _ ?_; clear hK K))
        (first | (refine calm_yes rfl rfl (fun w' hC => (by have cCx := hC.cell cCx; have cCy := hC.cell cCy; go_simp; rfl)) (fun K hK => ?_); go_simp; refine hK _ ?_; clear hK K) | (refine calm_no rfl rfl (fun K hK => ?_); go_simp; refine hK _ ?_; clear hK K))
        (first | (refine calm_yes rfl rfl (fun w' hC => (by have cCx := hC.cell cCx; have cCy := hC.cell cCy; go_simp; rfl)) (fun K hK => ?_); go_simp; refine hK _ ?_; clear hK K) | (refine calm_no rfl rfl (fun K hK => ?_); go_simp; refine hK _ ?_; clear hK K))
        (first | (refine calm_yes rfl rfl (fun w' hC => (by have cCx := hC.cell cCx; have cCy := hC.cell cCy; go_simp; rfl)) (fun K hK => ?_); go_simp; refine hK _ ?_; clear hK K) | (refine calm_no rfl rfl (fun K hK => ?_); go_simp; refine hK _ ?_; clear hK K))
        (first | (refine calm_yes rfl rfl (fun w' hC => (by have cCx := hC.cell cCx; have cCy := hC.cell cCy; go_simp; rfl)) (fun K hK => ?_); go_simp; refine hK _ ?_; clear hK K) | (refine calm_no rfl rfl (fun K hK => ?_); go_simp; refine hK _ ?_; clear hK K))
        (first | (refine calm_yes rfl rfl (fun w' hC => (by have cCx := hC.cell cCx; have cCy := hC.cell cCy; go_simp; rfl)) (fun K hK => ?_); go_simp; refine hK _ ?_; clear hK K) | (refine calm_no rfl rfl (fun K hK => ?_); go_simp; refine hK _ ?_; clear hK K))
        (first | (refine calm_yes rfl rfl (fun w' hC => (by have cCx := hC.cell cCx; have cCy := hC.cell cCy; go_simp; rfl)) (fun K hK => ?_); go_simp; refine hK _ ?_; clear hK K) | (refine calm_no rfl rfl (fun K hK => ?_); go_simp; refine hK _ ?_; clear hK K))
        (first | (refine calm_yes rfl rfl (fun w' hC => (by have cCx := hC.cell cCx; have cCy := hC.cell cCy; go_simp; rfl)) (fun K hK => ?_); go_simp; refine hK _ ?_; clear hK K) | (refine calm_no rfl rfl (fun K hK => ?_); go_simp; refine hK _ ?_; clear hK K))
        refine calm_done (fun w3 hb => ?_)
        clear cCx cCy
        replace E := Lib.hid (Ext.trans E.out hb)
        replace O := Lib.hid (own_ext O.out hb)
        replace Cx := Lib.hid (Cls.cell hb Cx.out)
        replace Cy := Lib.hid (Cls.cell hb Cy.out)
        clear hb
        have cCx := Cx.out
        have cCy := Cy.out
        by_cases hf : f < 0
        · have hfd : decide (f < 0) = true := decide_eq_true hf
          have hf2 : ¬ 0 ≤ f := by omega
          have hf2d : decide (0 ≤ f) = false := decide_eq_false hf2
          go_wp2_with fail
          refine (c_sinside m rule _ (by omega)).mono ?_
          rw [Hib.out]
          rintro e w' ⟨rfl, rfl⟩
          cases ib
          · have Hn : runsS cs rule (i + 1) = (fs, m, f) := by rw [HN.out]; simp [hf2]
            clear HN
            have Hn2 : Hid (runsS cs rule (i + 1) = (fs, m, f)) := Lib.hid Hn
            clear Hn
            go_wp2
            go_roundw
            case rel => exact ⟨i + 1, A2, cap2, fs, m, f, by omega, by rw [HJ.out], rfl, rfl, rfl, Hn2.out, O.out, E.out⟩
            case measure => (have hj := HJ.out; simp [intOf]; omega)
          · by_cases h48 : c1 < 48
            · have h48d : decide (c1 < 48) = true := decide_eq_true h48
              have Hn : Hid (runsS cs rule (i + 1) = (fs, m, c1)) := Lib.hid (by rw [HN.out]; simp [hf, h48])
              clear HN
              go_wp2
              go_roundw
              case rel => exact ⟨i + 1, A2, cap2, fs, m, c1, by omega, by rw [HJ.out], rfl, rfl, rfl, Hn.out, O.out, E.out⟩
              case measure => (have hj := HJ.out; simp [intOf]; omega)
            · have h48d : decide (c1 < 48) = false := decide_eq_false h48
              have Hn : runsS cs rule (i + 1) = (fs, m, f) := by rw [HN.out]; simp [hf2, h48]
              clear HN
              have Hn2 : Hid (runsS cs rule (i + 1) = (fs, m, f)) := Lib.hid Hn
              clear Hn
              go_wp2
              go_roundw
              case rel => exact ⟨i + 1, A2, cap2, fs, m, f, by omega, by rw [HJ.out], rfl, rfl, rfl, Hn2.out, O.out, E.out⟩
              case measure => (have hj := HJ.out; simp [intOf]; omega)
        · have hfd : decide (f < 0) = false := decide_eq_false hf
          have hf2 : 0 ≤ f := by omega
          have hf2d : decide (0 ≤ f) = true := decide_eq_true hf2
          go_wp2_with fail
          refine (c_sinside m rule _ (by omega)).mono ?_
          rw [Hib.out]
          rintro e w' ⟨rfl, rfl⟩
          cases ib
          · have Hn : Hid (runsS cs rule (i + 1) = (fs ++ [(f, c1)], m, -1)) := Lib.hid (by rw [HN.out, hfd, hf2d]; simp)
            clear HN
            have hz8 : w.heap.size ≤ w3.heap.size := E.out.size
            go_wp2_with (at_builtin; refine wpList_app (base := w.heap.size) ei_span rfl (.tmp 79) (.tmp 87) rfl rfl (own_ext O.out (ext_alloc _ _)) rfl (src_new _ _ [_, _] (m := 1) rfl (by intro u hu; simp only [List.mem_cons, List.not_mem_nil, or_false] at hu; rcases hu with rfl | rfl <;> rfl)) (by omega) (by simp; omega) ?_; intro ve w8 hown hg hat; refine stop_in ?_)
            refine stop_out ?_
            obtain ⟨A3, cap3, hve⟩ := own_form hown
            clear cCx cCy
            replace E := Lib.hid (Below.grown (Ext.trans E.out (ext_alloc _ _)) hg (by simp; omega) (fun k hk => by have := (O.out.lt k hk).1; omega))
            have heq : fs ++ [(f, c1)] = (fs ++ [(f, c1)]) := rfl
            replace O : Hid (Has w8 w.heap.size 53 2 (.slice A3 ((fs ++ [(f, c1)])).length cap3) ((fs ++ [(f, c1)])).length (((fs ++ [(f, c1)])).flatMap ptC)) := Lib.hid (by
              have q := hown
              rw [hve] at q
              rw [← heq, List.flatMap_append, List.length_append]
              exact q)
            have hvf : ve = .slice A3 ((fs ++ [(f, c1)])).length cap3 := by rw [hve, ← heq, List.length_append]; rfl
            clear hve
            clear hown hg hat heq
            subst hvf
            go_wp2
            go_roundw
            case rel => exact ⟨i + 1, A3, cap3, _, m, -1, by omega, by rw [HJ.out], rfl, rfl, rfl, Hn.out, O.out, E.out⟩
            case measure => (have hj := HJ.out; simp [intOf]; omega)
          · have Hn : runsS cs rule (i + 1) = (fs, m, f) := by rw [HN.out, hfd, hf2d]; simp
            clear HN
            have Hn2 : Hid (runsS cs rule (i + 1) = (fs, m, f)) := Lib.hid Hn
            clear Hn
            go_wp2
            go_roundw
            case rel => exact ⟨i + 1, A2, cap2, fs, m, f, by omega, by rw [HJ.out], rfl, rfl, rfl, Hn2.out, O.out, E.out⟩
            case measure => (have hj := HJ.out; simp [intOf]; omega)
      · have hlt2 : i + 1 < cs.length := by omega
        obtain ⟨dx, _⟩ := hc (i + 1) hlt2
        have e1 : ((j : Int) == (cs.length : Int)) = false := by simp; omega
        have hls : lstB cs i = decide (cs[i].1 < cs[i + 1].1) := by unfold lstB; rw [getD_cs hlt, getD_cs hlt2]; simp [hlast]
        rw [hls] at HN
        have v3 : (j : Int) < (cs.length : Int) := by omega
        have v4 : j < cs.length := by omega
        generalize cs[i + 1] = dd at *
        obtain ⟨d1, d2⟩ := dd
        dsimp only at dx HN
        rw [← hj] at dx
        have Dx := Lib.hid dx
        clear hc hls hlast dx hj hlt2
        generalize cs[i] = c at *
        obtain ⟨c1, c2⟩ := c
        dsimp only at k1 k2 k3 k4 HN cx cy
        obtain ⟨m, hm⟩ : ∃ m, m = n + c2 := ⟨_, rfl⟩
        rw [← hm] at HN
        obtain ⟨ib, hib⟩ : ∃ ib, insB m rule = ib := ⟨_, rfl⟩
        rw [hib] at HN
        have Hib := Lib.hid hib
        have gm : IntKind.i64.wrap (n + c2) = m := by rw [IntWalk.i64_in _ (by omega)]; exact hm.symm
        have hmb : -2000 ≤ m ∧ m ≤ 2000 := by omega
        obtain ⟨hm1, hm2⟩ := hmb
        have Cx := Lib.hid cx
        have Cy := Lib.hid cy
        clear cx cy hib hm
        have cCx := Cx.out
        have cCy := Cy.out
        have cDx := Dx.out
        go_wp2_with fail
        by_cases hcd : c1 < d1
        · have hcdd : decide (c1 < d1) = true := decide_eq_true hcd
          rw [hcdd] at HN
          refine wp_region_calm [0,1,2,3,4,5,6,7,8,9,10,11,12,13,14,15,16,17,18,19] [] (by kernel_rfl) (by kernel_rfl) ?_
          (first | (refine calm_yes rfl rfl (fun w' hC => (by have cCx := hC.cell cCx; have cCy := hC.cell cCy; have cDx := hC.cell cDx; go_simp; rfl)) (fun K hK => ?_); go_simp; refine hK _ ?_; clear hK K) | (refine calm_no rfl rfl (fun K hK => ?_); go_simp; refine hK _ ?_; clear hK K))
          (first | (refine calm_yes rfl rfl (fun w' hC => (by have cCx := hC.cell cCx; have cCy := hC.cell cCy; have cDx := hC.cell cDx; go_simp; rfl)) (fun K hK => ?_); go_simp; refine hK _ ?_; clear hK K) | (refine calm_no rfl rfl (fun K hK => ?_); go_simp; refine hK _ ?_; clear hK K))
          (first | (refine calm_yes rfl rfl (fun w' hC => (by have cCx := hC.cell cCx; have cCy := hC.cell cCy; have cDx := hC.cell cDx; go_simp; rfl)) (fun K hK => ?_); go_simp; refine hK _ ?_; clear hK K) | (refine calm_no rfl rfl (fun K hK => ?_); go_simp; refine hK _ ?_; clear hK K))
          (first | (refine calm_yes rfl rfl (fun w' hC => (by have cCx := hC.cell cCx; have cCy := hC.cell cCy; have cDx := hC.cell cDx; go_simp; rfl)) (fun K hK => ?_); go_simp; refine hK _ ?_; clear hK K) | (refine calm_no rfl rfl (fun K hK => ?_); go_simp; refine hK _ ?_; clear hK K))
          (first | (refine calm_yes rfl rfl (fun w' hC => (by have cCx := hC.cell cCx; have cCy := hC.cell cCy; have cDx := hC.cell cDx; go_simp; rfl)) (fun K hK => ?_); go_simp; refine hK _ ?_; clear hK K) | (refine calm_no rfl rfl (fun K hK => ?_); go_simp; refine hK _ ?_; clear hK K))
          (first | (refine calm_yes rfl rfl (fun w' hC => (by have cCx := hC.cell cCx; have cCy := hC.cell cCy; have cDx := hC.cell cDx; go_simp; rfl)) (fun K hK => ?_); go_simp; refine hK _ ?_; clear hK K) | (refine calm_no rfl rfl (fun K hK => ?_); go_simp; refine hK _ ?_; clear hK K))
          (first | (refine calm_yes rfl rfl (fun w' hC => (by have cCx := hC.cell cCx; have cCy := hC.cell cCy; have cDx := hC.cell cDx; go_simp; rfl)) (fun K hK => ?_); go_simp; refine hK _ ?_; clear hK K) | (refine calm_no rfl rfl (fun K hK => ?_); go_simp; refine hK _ ?_; clear hK K))
          (first | (refine calm_yes rfl rfl (fun w' hC => (by have cCx := hC.cell cCx; have cCy := hC.cell cCy; have cDx := hC.cell cDx; go_simp; rfl)) (fun K hK => ?_); go_simp; refine hK _ ?_; clear hK K) | (refine calm_no rfl rfl (fun K hK => ?_); go_simp; refine hK _ ?_; clear hK K))
          (first | (refine calm_yes rfl rfl (fun w' hC => (by have cCx := hC.cell cCx; have cCy := hC.cell cCy; have cDx := hC.cell cDx; go_simp; rfl)) (fun K hK => ?_); go_simp; refine hK _ ?_; clear hK K) | (refine calm_no rfl rfl (fun K hK => ?_); go_simp; refine hK _ ?_; clear hK K))
          (first | (refine calm_yes rfl rfl (fun w' hC => (by have cCx := hC.cell cCx; have cCy := hC.cell cCy; have cDx := hC.cell cDx; go_simp; rfl)) (fun K hK => ?_); go_simp; refine hK _ ?_; clear hK K) | (refine calm_no rfl rfl (fun K hK => ?_); go_simp; refine hK _ ?_; clear hK K))
          (first | (refine calm_yes rfl rfl (fun w' hC => (by have cCx := hC.cell cCx; have cCy := hC.cell cCy; have cDx := hC.cell cDx; go_simp; rfl)) (fun K hK => ?_); go_simp; refine hK _ ?_; clear hK K) | (refine calm_no rfl rfl (fun K hK => ?_); go_simp; refine hK _ ?_; clear hK K))
          (first | (refine calm_yes rfl rfl (fun w' hC => (by have cCx := hC.cell cCx; have cCy := hC.cell cCy; have cDx := hC.cell cDx; go_simp; rfl)) (fun K hK => ?_); go_simp; refine hK _ ?_; clear hK K) | (refine calm_no rfl rfl (fun K hK => ?_); go_simp; refine hK _ ?_; clear hK K))
          (first | (refine calm_yes rfl rfl (fun w' hC => (by have cCx := hC.cell cCx; have cCy := hC.cell cCy; have cDx := hC.cell cDx; go_simp; rfl)) (fun K hK => ?_); go_simp; refine hK _ ?_; clear hK K) | (refine calm_no rfl rfl (fun K hK => ?_); go_simp; refine hK _ ?_; clear hK K))
          (first | (refine calm_yes rfl rfl (fun w' hC => (by have cCx := hC.cell cCx; have cCy := hC.cell cCy; have cDx := hC.cell cDx; go_simp; rfl)) (fun K hK => ?_); go_simp; refine hK _ ?_; clear hK K) | (refine calm_no rfl rfl (fun K hK => ?_); go_simp; refine hK _ ?_; clear hK K))
          (first | (refine calm_yes rfl rfl (fun w' hC => (by have cCx := hC.cell cCx; have cCy := hC.cell cCy; have cDx := hC.cell cDx; go_simp; rfl)) (fun K hK => ?_); go_simp; refine hK _ ?_; clear hK K) | (refine calm_no rfl rfl (fun K hK => ?_); go_simp; refine hK _ ?_; clear hK K))
          (first | (refine calm_yes rfl rfl (fun w' hC => (by have cCx := hC.cell cCx; have cCy := hC.cell cCy; have cDx := hC.cell cDx; go_simp; rfl)) (fun K hK => ?_); go_simp; refine hK _ ?_; clear hK K) | (refine calm_no rfl rfl (fun K hK => ?_); go_simp; refine hK _ ?_; clear hK K))
          (first | (refine calm_yes rfl rfl (fun w' hC => (by have cCx := hC.cell cCx; have cCy := hC.cell cCy; have cDx := hC.cell cDx; go_simp; rfl)) (fun K hK => ?_); go_simp; refine hK _ ?_; clear hK K) | (refine calm_no rfl rfl (fun K hK => ?_); go_simp; refine hK _ ?_; clear hK K))
          (first | (refine calm_yes rfl rfl (fun w' hC => (by have cCx := hC.cell cCx; have cCy := hC.cell cCy; have cDx := hC.cell cDx; go_simp; rfl)) (fun K hK => ?_); go_simp; refine hK _ ?_; clear hK K) | (refine calm_no rfl rfl (fun K hK => ?_); go_simp; refine hK _ ?_; clear hK K))
          (first | (refine calm_yes rfl rfl (fun w' hC => (by have cCx := hC.cell cCx; have cCy := hC.cell cCy; have cDx := hC.cell cDx; go_simp; rfl)) (fun K hK => ?_); go_simp; refine hK _ ?_; clear hK K) | (refine calm_no rfl rfl (fun K hK => ?_); go_simp; refine hK _ ?_; clear hK K))
          (first | (refine calm_yes rfl rfl (fun w' hC => (by have cCx := hC.cell cCx; have cCy := hC.cell cCy; have cDx := hC.cell cDx; go_simp; rfl)) (fun K hK => ?_); go_simp; refine hK _ ?_; clear hK K) | (refine calm_no rfl rfl (fun K hK => ?_); go_simp; refine hK _ ?_; clear hK K))
          refine calm_done (fun w3 hb => ?_)
          clear cCx cCy cDx
          replace E := Lib.hid (Ext.trans E.out hb)
          replace O := Lib.hid (own_ext O.out hb)
          replace Cx := Lib.hid (Cls.cell hb Cx.out)
          replace Cy := Lib.hid (Cls.cell hb Cy.out)
          replace Dx := Lib.hid (Cls.cell hb Dx.out)
          clear hb
          have cCx := Cx.out
          have cCy := Cy.out
          have cDx := Dx.out
          by_cases hf : f < 0
          · have hfd : decide (f < 0) = true := decide_eq_true hf
            have hf2 : ¬ 0 ≤ f := by omega
            have hf2d : decide (0 ≤ f) = false := decide_eq_false hf2
            go_wp2_with fail
            refine (c_sinside m rule _ (by omega)).mono ?_
            rw [Hib.out]
            rintro e w' ⟨rfl, rfl⟩
            cases ib
            · have Hn : runsS cs rule (i + 1) = (fs, m, f) := by rw [HN.out]; simp [hf2]
              clear HN
              have Hn2 : Hid (runsS cs rule (i + 1) = (fs, m, f)) := Lib.hid Hn
              clear Hn
              go_wp2
              go_roundw
              case rel => exact ⟨i + 1, A2, cap2, fs, m, f, by omega, by rw [HJ.out], rfl, rfl, rfl, Hn2.out, O.out, E.out⟩
              case measure => (have hj := HJ.out; simp [intOf]; omega)
            · by_cases h48 : c1 < 48
              · have h48d : decide (c1 < 48) = true := decide_eq_true h48
                have Hn : Hid (runsS cs rule (i + 1) = (fs, m, c1)) := Lib.hid (by rw [HN.out]; simp [hf, h48])
                clear HN
                go_wp2
                go_roundw
                case rel => exact ⟨i + 1, A2, cap2, fs, m, c1, by omega, by rw [HJ.out], rfl, rfl, rfl, Hn.out, O.out, E.out⟩
                case measure => (have hj := HJ.out; simp [intOf]; omega)
              · have h48d : decide (c1 < 48) = false := decide_eq_false h48
                have Hn : runsS cs rule (i + 1) = (fs, m, f) := by rw [HN.out]; simp [hf2, h48]
                clear HN
                have Hn2 : Hid (runsS cs rule (i + 1) = (fs, m, f)) := Lib.hid Hn
                clear Hn
                go_wp2
                go_roundw
                case rel => exact ⟨i + 1, A2, cap2, fs, m, f, by omega, by rw [HJ.out], rfl, rfl, rfl, Hn2.out, O.out, E.out⟩
                case measure => (have hj := HJ.out; simp [intOf]; omega)
          · have hfd : decide (f < 0) = false := decide_eq_false hf
            have hf2 : 0 ≤ f := by omega
            have hf2d : decide (0 ≤ f) = true := decide_eq_true hf2
            go_wp2_with fail
            refine (c_sinside m rule _ (by omega)).mono ?_
            rw [Hib.out]
            rintro e w' ⟨rfl, rfl⟩
            cases ib
            · have Hn : Hid (runsS cs rule (i + 1) = (fs ++ [(f, c1)], m, -1)) := Lib.hid (by rw [HN.out, hfd, hf2d]; simp)
              clear HN
              have hz8 : w.heap.size ≤ w3.heap.size := E.out.size
              go_wp2_with (at_builtin; refine wpList_app (base := w.heap.size) ei_span rfl (.tmp 79) (.tmp 87) rfl rfl (own_ext O.out (ext_alloc _ _)) rfl (src_new _ _ [_, _] (m := 1) rfl (by intro u hu; simp only [List.mem_cons, List.not_mem_nil, or_false] at hu; rcases hu with rfl | rfl <;> rfl)) (by omega) (by simp; omega) ?_; intro ve w8 hown hg hat; refine stop_in ?_)
              refine stop_out ?_
              obtain ⟨A3, cap3, hve⟩ := own_form hown
              clear cCx cCy cDx
              replace E := Lib.hid (Below.grown (Ext.trans E.out (ext_alloc _ _)) hg (by simp; omega) (fun k hk => by have := (O.out.lt k hk).1; omega))
              have heq : fs ++ [(f, c1)] = (fs ++ [(f, c1)]) := rfl
              replace O : Hid (Has w8 w.heap.size 53 2 (.slice A3 ((fs ++ [(f, c1)])).length cap3) ((fs ++ [(f, c1)])).length (((fs ++ [(f, c1)])).flatMap ptC)) := Lib.hid (by
                have q := hown
                rw [hve] at q
                rw [← heq, List.flatMap_append, List.length_append]
                exact q)
              have hvf : ve = .slice A3 ((fs ++ [(f, c1)])).length cap3 := by rw [hve, ← heq, List.length_append]; rfl
              clear hve
              clear hown hg hat heq
              subst hvf
              go_wp2
              go_roundw
              case rel => exact ⟨i + 1, A3, cap3, _, m, -1, by omega, by rw [HJ.out], rfl, rfl, rfl, Hn.out, O.out, E.out⟩
              case measure => (have hj := HJ.out; simp [intOf]; omega)
            · have Hn : runsS cs rule (i + 1) = (fs, m, f) := by rw [HN.out, hfd, hf2d]; simp
              clear HN
              have Hn2 : Hid (runsS cs rule (i + 1) = (fs, m, f)) := Lib.hid Hn
              clear Hn
              go_wp2
              go_roundw
              case rel => exact ⟨i + 1, A2, cap2, fs, m, f, by omega, by rw [HJ.out], rfl, rfl, rfl, Hn2.out, O.out, E.out⟩
              case measure => (have hj := HJ.out; simp [intOf]; omega)
        · have hcdd : decide (c1 < d1) = false := decide_eq_false hcd
          rw [hcdd] at HN
          refine wp_region_calm [0,1,2,3,4,5,6,7,8,9,10,11,12,13,14,15,16,17,18,19] [] (by kernel_rfl) (by kernel_rfl) ?_
          (first | (refine calm_yes rfl rfl (fun w' hC => (by have cCx := hC.cell cCx; have cCy := hC.cell cCy; have cDx := hC.cell cDx; go_simp; rfl)) (fun K hK => ?_); go_simp; refine hK _ ?_; clear hK K) | (refine calm_no rfl rfl (fun K hK => ?_); go_simp; refine hK _ ?_; clear hK K))
          (first | (refine calm_yes rfl rfl (fun w' hC => (by have cCx := hC.cell cCx; have cCy := hC.cell cCy; have cDx := hC.cell cDx; go_simp; rfl)) (fun K hK => ?_); go_simp; refine hK _ ?_; clear hK K) | (refine calm_no rfl rfl (fun K hK => ?_); go_simp; refine hK _ ?_; clear hK K))
          (first | (refine calm_yes rfl rfl (fun w' hC => (by have cCx := hC.cell cCx; have cCy := hC.cell cCy; have cDx := hC.cell cDx; go_simp; rfl)) (fun K hK => ?_); go_simp; refine hK _ ?_; clear hK K) | (refine calm_no rfl rfl (fun K hK => ?_); go_simp; refine hK _ ?_; clear hK K))
          (first | (refine calm_yes rfl rfl (fun w' hC => (by have cCx := hC.cell cCx; have cCy := hC.cell cCy; have cDx := hC.cell cDx; go_simp; rfl)) (fun K hK => ?_); go_simp; refine hK _ ?_; clear hK K) | (refine calm_no rfl rfl (fun K hK => ?_); go_simp; refine hK _ ?_; clear hK K))
          (first | (refine calm_yes rfl rfl (fun w' hC => (by have cCx := hC.cell cCx; have cCy := hC.cell cCy; have cDx := hC.cell cDx; go_simp; rfl)) (fun K hK => ?_); go_simp; refine hK _ ?_; clear hK K) | (refine calm_no rfl rfl (fun K hK => ?_); go_simp; refine hK _ ?_; clear hK K))
          (first | (refine calm_yes rfl rfl (fun w' hC => (by have cCx := hC.cell cCx; have cCy := hC.cell cCy; have cDx := hC.cell cDx; go_simp; rfl)) (fun K hK => ?_); go_simp; refine hK _ ?_; clear hK K) | (refine calm_no rfl rfl (fun K hK => ?_); go_simp; refine hK _ ?_; clear hK K))
          (first | (refine calm_yes rfl rfl (fun w' hC => (by have cCx := hC.cell cCx; have cCy := hC.cell cCy; have cDx := hC.cell cDx; go_simp; rfl)) (fun K hK => ?_); go_simp; refine hK _ ?_; clear hK K) | (refine calm_no rfl rfl (fun K hK => ?_); go_simp; refine hK _ ?_; clear hK K))
          (first | (refine calm_yes rfl rfl (fun w' hC => (by have cCx := hC.cell cCx; have cCy := hC.cell cCy; have cDx := hC.cell cDx; go_simp; rfl)) (fun K hK => ?_); go_simp; refine hK _ ?_; clear hK K) | (refine calm_no rfl rfl (fun K hK => ?_); go_simp; refine hK _ ?_; clear hK K))
          (first | (refine calm_yes rfl rfl (fun w' hC => (by have cCx := hC.cell cCx; have cCy := hC.cell cCy; have cDx := hC.cell cDx; go_simp; rfl)) (fun K hK => ?_); go_simp; refine hK _ ?_; clear hK K) | (refine calm_no rfl rfl (fun K hK => ?_); go_simp; refine hK _ ?_; clear hK K))
          (first | (refine calm_yes rfl rfl (fun w' hC => (by have cCx := hC.cell cCx; have cCy := hC.cell cCy; have cDx := hC.cell cDx; go_simp; rfl)) (fun K hK => ?_); go_simp; refine hK _ ?_; clear hK K) | (refine calm_no rfl rfl (fun K hK => ?_); go_simp; refine hK _ ?_; clear hK K))
          (first | (refine calm_yes rfl rfl (fun w' hC => (by have cCx := hC.cell cCx; have cCy := hC.cell cCy; have cDx := hC.cell cDx; go_simp; rfl)) (fun K hK => ?_); go_simp; refine hK _ ?_; clear hK K) | (refine calm_no rfl rfl (fun K hK => ?_); go_simp; refine hK _ ?_; clear hK K))
          (first | (refine calm_yes rfl rfl (fun w' hC => (by have cCx := hC.cell cCx; have cCy := hC.cell cCy; have cDx := hC.cell cDx; go_simp; rfl)) (fun K hK => ?_); go_simp; refine hK _ ?_; clear hK K) | (refine calm_no rfl rfl (fun K hK => ?_); go_simp; refine hK _ ?_; clear hK K))
          (first | (refine calm_yes rfl rfl (fun w' hC => (by have cCx := hC.cell cCx; have cCy := hC.cell cCy; have cDx := hC.cell cDx; go_simp; rfl)) (fun K hK => ?_); go_simp; refine hK _ ?_; clear hK K) | (refine calm_no rfl rfl (fun K hK => ?_); go_simp; refine hK _ ?_; clear hK K))
          (first | (refine calm_yes rfl rfl (fun w' hC => (by have cCx := hC.cell cCx; have cCy := hC.cell cCy; have cDx := hC.cell cDx; go_simp; rfl)) (fun K hK => ?_); go_simp; refine hK _ ?_; clear hK K) | (refine calm_no rfl rfl (fun K hK => ?_); go_simp; refine hK _ ?_; clear hK K))
          (first | (refine calm_yes rfl rfl (fun w' hC => (by have cCx := hC.cell cCx; have cCy := hC.cell cCy; have cDx := hC.cell cDx; go_simp; rfl)) (fun K hK => ?_); go_simp; refine hK _ ?_; clear hK K) | (refine calm_no rfl rfl (fun K hK => ?_); go_simp; refine hK _ ?_; clear hK K))
          (first | (refine calm_yes rfl rfl (fun w' hC => (by have cCx := hC.cell cCx; have cCy := hC.cell cCy; have cDx := hC.cell cDx; go_simp; rfl)) (fun K hK => ?_); go_simp; refine hK _ ?_; clear hK K) | (refine calm_no rfl rfl (fun K hK => ?_); go_simp; refine hK _ ?_; clear hK K))
          (first | (refine calm_yes rfl rfl (fun w' hC => (by have cCx := hC.cell cCx; have cCy := hC.cell cCy; have cDx := hC.cell cDx; go_simp; rfl)) (fun K hK => ?_); go_simp; refine hK _ ?_; clear hK K) | (refine calm_no rfl rfl (fun K hK => ?_); go_simp; refine hK _ ?_; clear hK K))
          (first | (refine calm_yes rfl rfl (fun w' hC => (by have cCx := hC.cell cCx; have cCy := hC.cell cCy; have cDx := hC.cell cDx; go_simp; rfl)) (fun K hK => ?_); go_simp; refine hK _ ?_; clear hK K) | (refine calm_no rfl rfl (fun K hK => ?_); go_simp; refine hK _ ?_; clear hK K))
          (first | (refine calm_yes rfl rfl (fun w' hC => (by have cCx := hC.cell cCx; have cCy := hC.cell cCy; have cDx := hC.cell cDx; go_simp; rfl)) (fun K hK => ?_); go_simp; refine hK _ ?_; clear hK K) | (refine calm_no rfl rfl (fun K hK => ?_); go_simp; refine hK _ ?_; clear hK K))
          (first | (refine calm_yes rfl rfl (fun w' hC => (by have cCx := hC.cell cCx; have cCy := hC.cell cCy; have cDx := hC.cell cDx; go_simp; rfl)) (fun K hK => ?_); go_simp; refine hK _ ?_; clear hK K) | (refine calm_no rfl rfl (fun K hK => ?_); go_simp; refine hK _ ?_; clear hK K))
          refine calm_done (fun w3 hb => ?_)
          clear cCx cCy cDx
          replace E := Lib.hid (Ext.trans E.out hb)
          replace O := Lib.hid (own_ext O.out hb)
          replace Cx := Lib.hid (Cls.cell hb Cx.out)
          replace Cy := Lib.hid (Cls.cell hb Cy.out)
          replace Dx := Lib.hid (Cls.cell hb Dx.out)
          clear hb
          have cCx := Cx.out
          have cCy := Cy.out
          have cDx := Dx.out
          have Hn : runsS cs rule (i + 1) = (fs, m, f) := by rw [HN.out]; simp
          clear HN
          have Hn2 : Hid (runsS cs rule (i + 1) = (fs, m, f)) := Lib.hid Hn
          clear Hn
          go_wp2
          go_roundw
          case rel => exact ⟨i + 1, A2, cap2, fs, m, f, by omega, by rw [HJ.out], rfl, rfl, rfl, Hn2.out, O.out, E.out⟩
          case measure => (have hj := HJ.out; simp [intOf]; omega)
    · have hi' : i = cs.length := by omega
      have v1d : decide ((i : Int) < (cs.length : Int)) = false := decide_eq_false (by omega)
      by_cases hf : 0 ≤ f
      · have hfd : decide (0 ≤ f) = true := decide_eq_true hf
        have Hf : Hid (fs ++ [(f, 48)] = S) := Lib.hid (by rw [← HS.out]; unfold runsE; rw [← hi', Hr.out]; simp [hf])
        clear hi'
        go_wp2_with (at_builtin; refine wpList_app (base := w.heap.size) ei_span rfl (.tmp 91) (.tmp 94) rfl rfl (own_ext O.out (ext_alloc _ _)) rfl (src_new _ _ [_, _] (m := 1) rfl (by intro u hu; simp only [List.mem_cons, List.not_mem_nil, or_false] at hu; rcases hu with rfl | rfl <;> rfl)) (by omega) (by simp; omega) ?_; intro ve w8 hown hg hat; refine stop_in ?_)
        refine stop_out ?_
        obtain ⟨A3, cap3, hve⟩ := own_form hown
        replace E := Lib.hid (Below.grown (Ext.trans E.out (ext_alloc _ _)) hg (by simp; omega) (fun k hk => by have := (O.out.lt k hk).1; omega))
        have heq : fs ++ [(f, 48)] = (fs ++ [(f, 48)]) := rfl
        replace O : Hid (Has w8 w.heap.size 53 2 (.slice A3 ((fs ++ [(f, 48)])).length cap3) ((fs ++ [(f, 48)])).length (((fs ++ [(f, 48)])).flatMap ptC)) := Lib.hid (by
          have q := hown
          rw [hve] at q
          rw [← heq, List.flatMap_append, List.length_append]
          exact q)
        have hvf : ve = .slice A3 ((fs ++ [(f, 48)])).length cap3 := by rw [hve, ← heq, List.length_append]; rfl
        clear hve
        clear hown hg hat heq
        subst hvf
        go_wp2
        go_ret
        rw [← Hf.out]
        exact ⟨A3, cap3, rfl, O.out, E.out⟩
      · have hfd : decide (0 ≤ f) = false := decide_eq_false hf
        have Hf : Hid (fs = S) := Lib.hid (by rw [← HS.out]; unfold runsE; rw [← hi', Hr.out]; simp [hf])
        clear hi'
        go_wp2
        go_ret
        rw [← Hf.out]
        exact ⟨A2, cap2, rfl, O.out, E.out⟩
end Go.Proofs.Yteknlifgejpjfaa
