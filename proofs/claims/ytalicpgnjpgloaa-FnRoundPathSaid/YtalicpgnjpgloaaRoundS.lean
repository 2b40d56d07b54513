/-
  Rounds: the plain law and the walk of the reference.
-/
import Derived.Test.YtalicpgnjpgloaaRhomb
import Derived.Test.YtalicpgnjpgloaaMg1
namespace Go.Proofs.Ytalicpgnjpgloaa
open Go Go.RowKit Reg
attribute [local go_sem] calmAt calmUpon
/-- The eight points about a middle. -/
def rd8 (p : Pt) (r : Int) : List Pt := [(p.1, p.2 - r), (p.1 + r, p.2 - r), (p.1 + r, p.2), (p.1 + r, p.2 + r), (p.1, p.2 + r), (p.1 - r, p.2 + r), (p.1 - r, p.2), (p.1 - r, p.2 - r)]
def rdIt (q : List Pt) : Nat → List Vb
  | 0 => [(0, [q.getD 0 (0, 0)])]
  | j + 1 => rdIt q j ++ [(2, [q.getD (2 * j + 1) (0, 0), q.getD ((2 * j + 1 + 1) % 8) (0, 0)])]
def roundP (p : Pt) (r : Int) : List Vb × Bool := if rhOk p r then (rdIt (rd8 p r) 4 ++ [(4, [])], true) else ([], false)
theorem rdIt_len (q : List Pt) : ∀ j, (rdIt q j).length = j + 1
  | 0 => rfl
  | j + 1 => by simp [rdIt, rdIt_len q j]
theorem rdIt_small (q : List Pt) : ∀ j, ∀ v ∈ rdIt q j, v.2.length ≤ 2
  | 0, v, h => by simp [rdIt] at h; subst h; simp
  | j + 1, v, h => by
    rcases List.mem_append.1 h with h | h
    · exact rdIt_small q j v h
    · simp at h; subst h; simp
theorem roundP_len (p : Pt) (r : Int) : (roundP p r).1.length ≤ 6 := by
  unfold roundP
  split
  · simp [rdIt_len]
  · simp
theorem roundP_small (p : Pt) (r : Int) : ∀ v ∈ (roundP p r).1, v.2.length ≤ 2 := by
  unfold roundP
  split
  · intro v h
    rcases List.mem_append.1 h with h | h
    · exact rdIt_small _ _ v h
    · simp at h; subst h; simp
  · simp
theorem rd8_ok {p : Pt} {r : Int} : psB (rd8 p r) = psB (rhPts p r) ∨ vpB p = false := by
  by_cases hv : vpB p = true
  · left
    have hv2 := vpB_iff.1 hv
    rw [Bool.eq_iff_iff]
    simp [psB, rd8, rhPts, vpB, inB]
    omega
  · right; simpa using hv
set_option maxRecDepth 100000 in
set_option maxHeartbeats 2000000 in
theorem c_sRoundPath (p : Pt) (r : Int) (w : World) : Calls Try.prog 12 #[ptW p, .int .i64 r] w fun e w' => RetVb w w' e (roundP p r) := by
  obtain ⟨x, y⟩ := p
  by_cases hv : vpB (x, y) = true
  · by_cases hr : inB r 1 1000 = true
    · have hr2 := inB_iff.1 hr
      have hv2 := vpB_iff.1 hv
      dsimp only at hv2
      obtain ⟨⟨h1, h2⟩, h3, h4⟩ := hv2
      obtain ⟨h5, h6⟩ := hr2
      obtain ⟨ok, hok⟩ : ∃ ok, ok = psB (rd8 (x, y) r) := ⟨_, rfl⟩
      have hok2 : rhOk (x, y) r = ok := by
        rcases rd8_ok (p := (x, y)) (r := r) with h | h
        · simp [rhOk, hv, hr, hok, h]
        · rw [hv] at h; cases h
      have Hok := Lib.hid hok2
      have Hok1 := Lib.hid hok
      have Hln : Hid ((rd8 (x, y) r).length = 8) := Lib.hid rfl
      clear hok hok2
      cases ok
      all_goals
        go_enter Try.func12, Try.ntmps12
        go_wp2_with (first | (go_at_call 35; (with_reducible refine (c_inRange _ _ _ _).mono ?_); rintro e w' ⟨rfl, rfl⟩) | (go_at_call 34; (with_reducible refine (c_validPoint (x, y) _).mono ?_); rintro e w1 ⟨rfl, hb1⟩; obtain ⟨hc1, hf1⟩ := bcell hb1; have hz1 : w.heap.size < w1.heap.size := by have := hb1.size; (try simp at this); omega))
        have Hp : Hid (Pts w1 (some ⟨w.heap.size + 1, 0, none⟩) (rd8 (x, y) r)) := Lib.hid ((pts_new _ _ _ (by simp) (by rfl)).ext ptR_stab hb1)
        have Hx : Hid (Ext w w1) := Lib.hid (Ext.trans (by repeat (first | exact Below.refl _ _ | assumption | refine Below.drew ?_ | refine Below.alloc ?_ (by first | exact Nat.le_refl _ | omega | (simp; done) | (simp; omega)) _ | refine Below.setCell ?_ (by first | exact Nat.le_refl _ | omega | (simp; done) | (simp; omega)) _)) hb1)
        clear hb1 hc1 hf1
        refine (c_validPoints _ 8 (rd8 (x, y) r) _ Hp.out (by simp [rd8])).mono ?_
        rw [← Hok1.out]
        rintro e w2 ⟨rfl, hb2⟩
        have Hb2 := Lib.hid hb2
        clear hb2
      · go_wp2_with fail
        go_ret2
        exact RetVb.none (by simp [roundP, Hok.out]) (Ext.trans Hx.out Hb2.out)
      · have Hp2 := Lib.hid (Hp.out.ext ptR_stab Hb2.out)
        have Hx2 := Lib.hid (Ext.trans Hx.out Hb2.out)
        have S2 : w1.heap.size ≤ w2.heap.size := Hb2.out.size
        have Hr : Hid (roundP (x, y) r = (rdIt (rd8 (x, y) r) 4 ++ [(4, [])], true)) := Lib.hid (by simp [roundP, Hok.out])
        clear Hp Hb2 Hok Hok1 Hx hv hr
        generalize rd8 (x, y) r = q at Hp2 Hln Hr
        have hln := Hln.out
        obtain ⟨b, off, hA, hb, hc⟩ := Hp2.out.pts (by omega)
        obtain ⟨rfl, rfl⟩ : w.heap.size + 1 = b ∧ 0 = off := by simpa using hA
        obtain ⟨cx, cy⟩ := hc 0 (by omega)
        simp only [Nat.zero_mul, Nat.add_zero] at cx cy
        obtain ⟨q0, hq0⟩ : ∃ q0, q[0] = q0 := ⟨_, rfl⟩
        rw [hq0] at cx cy
        have Hq0 : Hid (rdIt q 0 = [(0, [q0])]) := Lib.hid (by rw [← hq0]; simp [rdIt, List.getD, show 0 < q.length by omega])
        clear hA hc hq0 hb hln
        go_wp2_with fail
        clear cx cy
        go_loopw [10, 11] (fun v i wr => ∃ (k j : Nat) (ss : List Value), k = 2 * j + 1 ∧ j ≤ 4 ∧ i = .int .i64 k ∧ OVb wr w2.heap.size 31 62 v (rdIt q j) ss ∧ Below w2.heap.size w2 wr) (fun _ i _ => 9 - (intOf i).toNat)
        case atStart =>
          refine ⟨1, 0, [.slice (some ⟨w2.heap.size, 0, none⟩) 1 1], rfl, by omega, rfl, ?_, (by repeat (first | exact Below.refl _ _ | assumption | refine Below.drew ?_ | refine Below.alloc ?_ (by first | exact Nat.le_refl _ | omega | (simp; done) | (simp; omega)) _ | refine Below.setCell ?_ (by first | exact Nat.le_refl _ | omega | (simp; done) | (simp; omega)) _))⟩
          rw [Hq0.out]
          obtain ⟨_, r1, r2⟩ := new2 (w := w2) (e1 := 31) (c1 := [.int .i64 q0.1, .int .i64 q0.2]) (e2 := 62) (c2 := [.int .i64 0, .slice (some ⟨w2.heap.size, 0, none⟩) 1 1]) rfl
          exact ⟨rfl, own_of_row (n := 1) r2 (by omega) rfl (by decide), fun i hi => by
            obtain rfl : i = 0 := by simp at hi; omega
            exact own_of_row (n := 1) r1 (by omega) rfl (by decide), fun i j hi hj hij => by simp at hi hj; omega⟩
        case round =>
          obtain ⟨k, j, ss, hkj, hj, rfl, how, hbw⟩ := hrel
          have How := Lib.hid how
          have hz := hbw.size
          have hln := Hln.out
          have Hkj := Lib.hid hkj
          clear how
          by_cases hlt : j < 4
          · obtain ⟨b, off, hA, hb, hc⟩ := (Hp2.out.ext ptR_stab hbw).pts (by omega)
            obtain ⟨rfl, rfl⟩ : w.heap.size + 1 = b ∧ 0 = off := by simpa using hA
            obtain ⟨m, hm⟩ : ∃ m, m = (k + 1) % 8 := ⟨_, rfl⟩
            have lm : m < 8 := by omega
            have lk : k < 8 := by omega
            obtain ⟨cx, cy⟩ := hc k (by omega)
            obtain ⟨dx, dy⟩ := hc m (by omega)
            obtain ⟨qk, hqk⟩ : ∃ z, q[k] = z := ⟨_, rfl⟩
            obtain ⟨qm, hqm⟩ : ∃ z, q[m] = z := ⟨_, rfl⟩
            rw [hqk] at cx cy
            rw [hqm] at dx dy
            simp only [Nat.zero_add] at cx cy dx dy
            have Hst : Hid (rdIt q (j + 1) = rdIt q j ++ [(2, [qk, qm])]) := Lib.hid (by
              rw [← hqk, ← hqm]; subst hm; subst hkj
              simp [rdIt, List.getD, show 2 * j + 1 < q.length by omega, show (2 * j + 1 + 1) % 8 < q.length by omega])
            have f2 : Int.tmod ((k : Int) + 1) 8 = (m : Int) := by rw [hm]; exact tmod_nat1 k 8 1
            clear hA hc hqk hqm hm hkj hln hb
            go_wp2_with fail
            have f1 : IntKind.i64.wrap ((k : Int) + 1) = (k : Int) + 1 := IntWalk.i64_in _ (by omega)
            have f3 : (k : Int) < 8 := by omega
            have f4 : (m : Int) < 8 := by omega
            refine wp_region_calm [0,1,2,3,4,5,6,7,8,9,10] [11,12,13,14,15] (by kernel_rfl) (by kernel_rfl) ?_
            iterate 11 ((refine calm_yes rfl rfl (fun w' hC => (by have cx := hC.cell cx; have cy := hC.cell cy; have dx := hC.cell dx; have dy := hC.cell dy; go_simp; rfl)) (fun K hK => ?_); go_simp; refine hK _ ?_; clear hK K))
            refine calm_nil (fun w3 hC2 => ?_)
            refine late_keep rfl rfl hC2 (fun w4 hx3 hC3 K hK => ?_)
            go_simp
            refine hK _ _ (Below.alloc hC3 hC3.size _) (fun hC4 => ?_)
            clear hK K
            refine late_keep rfl rfl hC4 (fun w5 hx5 hC5 K hK => ?_)
            go_simp
            refine hK _ _ hC5 (fun hC6 => ?_)
            clear hK K
            refine late_keep rfl rfl hC5 (fun w6 hx6 hC6 K hK => ?_)
            go_simp
            refine hK _ _ (Below.alloc hC6 hC6.size _) (fun hC7 => ?_)
            clear hK K
            refine late_free (by kernel_rfl) rfl rfl (fun w7 hx7 K hK => ?_)
            have E2 := ext_cls hC2
            have E3 := Ext.trans E2 hx3
            have E5 := Ext.trans (Ext.trans E3 (ext_alloc _ _)) hx5
            have E6 := Ext.trans E5 hx6
            have E7 := Ext.trans (Ext.trans E6 (ext_alloc _ _)) hx7
            refine wp_app (base := w2.heap.size) ei_vb (.tmp 89) (.tmp 102) rfl rfl (own_ext How.out.out E7) rfl ((src_new w6 _ [_, _] (m := 1) rfl (by intro u hu; simp at hu; rcases hu with rfl | rfl <;> rfl)).ext hx7) (by rw [rdIt_len]; omega) (by have := hbw.size; have := E7.size; omega) ?_
            intro v8 w8 hown8 hg8 hat8
            refine hK _ _ ?_
            clear hK K
            refine late_free (by kernel_rfl) rfl rfl (fun w9 hx9 K hK => ?_)
            go_simp
            refine hK _ _ ?_
            clear hK K
            refine late_nil (fun w10 hx10 => ?_)
            have hs : Row w7 w4.heap.size 31 ([qk, qm].flatMap ptC) := ((Row.new w4 31 [.int .i64 qk.1, .int .i64 qk.2, .int .i64 qm.1, .int .i64 qm.2]).ext (Ext.trans hx5 (Ext.trans hx6 (Ext.trans (ext_alloc _ _) hx7))))
            have hov := How.out.push (x := (2, [qk, qm])) (s := .slice (some ⟨w4.heap.size, 0, none⟩) 2 2) TP_ne_TV E7 (own_of_row (n := 2) hs (by have := E3.size; omega) rfl (by decide)) (fun g hg => by simp [Value.ownBlock] at hg; have := E3.size; omega) hown8 hg8
            rw [← Hst.out] at hov
            have hbf := own_below (Ext.trans hbw E7) (own_ext How.out.out E7) hg8 (by have := E7.size; omega)
            have Hov := Lib.hid (hov.ext (Ext.trans hx9 hx10))
            have hbf10 := Below.trans hbf (Below.mono (Ext.trans hx9 hx10) (by have := hbf.size; omega))
            clear hov hown8 hg8 hat8 hs hbf hx9 hx10 hx3 hx5 hx6 hx7 E2 E3 E5 E6 E7 hC2 hC3 hC4 hC5 hC6 hC7 How f1 f2 f3 f4 cx cy dx dy
            go_wp2_with fail
            go_roundw
            case rel => exact ⟨k + 2, j + 1, _, by have := Hkj.out; omega, by omega, by go_num, Hov.out, hbf10⟩
            case measure => simp [intOf]; omega
          · obtain rfl : j = 4 := by omega
            obtain rfl : k = 9 := by omega
            have hpl := rdIt_len q 4
            clear hkj hln hlt hj
            go_wp2_with (at_builtin; refine wpList_app ei_vb rfl (.tmp 104) (.tmp 106) rfl rfl (own_ext How.out.out (ext_alloc _ _)) rfl (src_new wr _ [_, _] (m := 1) rfl (by intro u hu; simp at hu; rcases hu with rfl | rfl <;> rfl)) (by omega) (by simp; omega) ?_; intro v2 w3 hown3 hg3 hat3)
            obtain ⟨A2, cap2, hv2⟩ := own_form hown3
            have hbf := own_below (Ext.trans hbw (ext_alloc wr _)) (own_ext How.out.out (ext_alloc wr _)) hg3 (by simp; omega)
            have hov := OVb.push (x := (4, [])) (s := .slice none 0 0) How.out TP_ne_TV (ext_alloc wr _) (own_nil _ _ _ _) (fun g hg => by cases hg) hown3 hg3
            have Hov := Lib.hid hov
            subst hv2
            clear hown3 hg3 hat3 hov
            go_wp2
            go_ret2
            exact RetVb.some Hr.out Hov.out (by simp [rdIt_len]) Hx2.out hbf
    · simp only [Bool.not_eq_true] at hr
      go_enter Try.func12, Try.ntmps12
      go_wp2_with (first | (go_at_call 35; (with_reducible refine (c_inRange _ _ _ _).mono ?_); rintro e w' ⟨rfl, rfl⟩) | (go_at_call 34; (with_reducible refine (c_validPoint (x, y) _).mono ?_); rintro e w1 ⟨rfl, hb1⟩; obtain ⟨hc1, hf1⟩ := bcell hb1; have hz1 : w.heap.size < w1.heap.size := by have := hb1.size; (try simp at this); omega))
      go_ret2
      exact RetVb.none (by simp [roundP, rhOk, hr]) (Ext.trans (by repeat (first | exact Below.refl _ _ | assumption | refine Below.drew ?_ | refine Below.alloc ?_ (by first | exact Nat.le_refl _ | omega | (simp; done) | (simp; omega)) _ | refine Below.setCell ?_ (by first | exact Nat.le_refl _ | omega | (simp; done) | (simp; omega)) _)) hb1)
  · simp only [Bool.not_eq_true] at hv
    go_enter Try.func12, Try.ntmps12
    go_wp2_with (first | (go_at_call 35; (with_reducible refine (c_inRange _ _ _ _).mono ?_); rintro e w' ⟨rfl, rfl⟩) | (go_at_call 34; (with_reducible refine (c_validPoint (x, y) _).mono ?_); rintro e w1 ⟨rfl, hb1⟩; obtain ⟨hc1, hf1⟩ := bcell hb1; have hz1 : w.heap.size < w1.heap.size := by have := hb1.size; (try simp at this); omega))
    go_ret2
    exact RetVb.none (by simp [roundP, rhOk, hv]) (Ext.trans (by repeat (first | exact Below.refl _ _ | assumption | refine Below.drew ?_ | refine Below.alloc ?_ (by first | exact Nat.le_refl _ | omega | (simp; done) | (simp; omega)) _ | refine Below.setCell ?_ (by first | exact Nat.le_refl _ | omega | (simp; done) | (simp; omega)) _)) hb1)
end Go.Proofs.Ytalicpgnjpgloaa
