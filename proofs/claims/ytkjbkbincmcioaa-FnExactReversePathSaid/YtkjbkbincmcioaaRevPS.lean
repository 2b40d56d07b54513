/-
  Paths turned round: the plain law and the walk of the reference.
-/
import Derived.Test.YtkjbkbincmcioaaVbPut
import Derived.Test.YtkjbkbincmcioaaPath2
import Derived.Test.YtkjbkbincmcioaaStep
import Derived.Test.YtkjbkbincmcioaaRingsS
import Derived.Test.YtkjbkbincmcioaaBox
namespace Go.Proofs.Ytkjbkbincmcioaa
open Go Go.RowKit Reg
attribute [local go_sem] calmAt calmUpon
/-- The polygons as paths, each from its end. -/
def revV (rs : List Rg) : List Vb := rs.flatMap fun r => polyV r.reverse ++ [(4, [])]
def revP (vs : List Vb) : List Vb × Bool := if pathOk vs = true ∧ pathOk (revV (ringsL vs)) = true then (revV (ringsL vs), true) else ([], false)
theorem revV_len (rs : List Rg) : (revV rs).length = corners rs + rs.length := by
  induction rs with
  | nil => rfl
  | cons r rs ih =>
    have h1 : revV (r :: rs) = polyV r.reverse ++ [(4, [])] ++ revV rs := by simp [revV]
    have h2 := polyV_len r.reverse
    rw [h1, List.length_append, List.length_append, ih, h2, corners_cons, List.length_reverse]
    simp
    omega
theorem revV_take {rs : List Rg} {k : Nat} (h : k < rs.length) : revV (rs.take (k + 1)) = revV (rs.take k) ++ polyV (rs[k].reverse.take rs[k].length) ++ [(4, [])] := by
  have h1 : rs[k].reverse.take rs[k].length = rs[k].reverse := List.take_of_length_le (by simp)
  unfold revV
  rw [List.take_succ_eq_append_getElem h, List.flatMap_append, h1]
  simp
theorem revV_small (rs : List Rg) : ∀ v ∈ revV rs, v.2.length ≤ 1 := by
  intro v h
  unfold revV at h
  obtain ⟨r, _, h⟩ := List.mem_flatMap.1 h
  rcases List.mem_append.1 h with h | h
  · unfold polyV at h
    obtain ⟨x, _, rfl⟩ := List.mem_map.1 h
    simp
  · simp at h; subst h; simp
theorem ORg.grownNe {w w' : World} {B B' sz n : Nat} {TP TR e : TypeId} {v v' : Value} {rs : List Rg} {ss xs : List Value} (h : ORg w B TP TR v rs ss) (ho : Has w B' e sz v' n xs) (h1 : e ≠ TP) (h2 : e ≠ TR) (hg : w.grownBy w' v'.ownBlock) : ORg w' B TP TR v rs ss :=
  ⟨h.len, h.out.grownNe ho h2 hg, fun i hi => (h.inn i hi).grownNe ho h1 hg, h.nd⟩
theorem TV_ne_TP : (54 : TypeId) ≠ 27 := by decide
theorem TV_ne_TR : (54 : TypeId) ≠ 35 := by decide
theorem sl_len {α : Type} {A : Option Addr} {cap : Nat} {vs : List α} {x : α} : Value.slice A (vs.length + 1) cap = .slice A (vs ++ [x]).length cap := by rw [List.length_append]; rfl
theorem OVb.lens {w : World} {B cap : Nat} {TP TV : TypeId} {A : Option Addr} {vs : List Vb} {x : Vb} {ss : List Value} (h : OVb w B TP TV (.slice A (vs.length + 1) cap) (vs ++ [x]) ss) : OVb w B TP TV (.slice A (vs ++ [x]).length cap) (vs ++ [x]) ss := by
  rw [← sl_len]; exact h
/-- A path turned round, or none, in rows of its own. -/
def RetRvV (w : World) (R : List Vb × Bool) (e : Ending) (w' : World) : Prop := ∃ A' cap' ss, e = .returned (.tuple #[.slice A' R.1.length cap', .bool R.2]) ∧ OVb w' w.heap.size 27 54 (.slice A' R.1.length cap') R.1 ss ∧ Below w.heap.size w w'
theorem retRvV_nil {w w' : World} (h : Below w.heap.size w w') : RetRvV w ([], false) (.returned (.tuple #[.slice none 0 0, .bool false])) w' := ⟨none, 0, [], rfl, OVb.nil _ _ _ _, h⟩
set_option maxRecDepth 100000 in
set_option maxHeartbeats 4000000 in
theorem c_sReversePath (A : Option Addr) (cap : Nat) (vs : List Vb) (w : World) (h : Vbs w A vs) (hl : vs.length ≤ 1000000000) (hs : ∀ v ∈ vs, v.2.length ≤ 1000000000) :
    Calls Try.prog 19 #[.slice A vs.length cap] w (RetRvV w (revP vs)) := by
  obtain ⟨R, hR⟩ : ∃ R, revP vs = R := ⟨_, rfl⟩
  rw [hR]
  obtain ⟨d1, hd1⟩ : ∃ d, pathOk vs = d := ⟨_, rfl⟩
  have HR : Hid (R = if d1 = true ∧ pathOk (revV (ringsL vs)) = true then (revV (ringsL vs), true) else ([], false)) := Lib.hid (by rw [← hR]; unfold revP; rw [hd1])
  have H := Lib.hid h
  have KV := Lib.hid (fun W hW => c_sValidPath A cap vs W hW hl hs)
  have H1 := Lib.hid hd1
  have E := Lib.hid (Below.refl w.heap.size w)
  clear h hR hd1 hl hs
  go_enter Try.func19, Try.ntmps19
  go_wp2_with fail
  first | refine gen_calls ?_ | refine gen_code ?_ | refine gen_list ?_
  intro w0 hW
  obtain ⟨hb, hR0⟩ := new1 hW
  clear hW
  replace E := Lib.hid (Ext.trans E.out hb)
  replace H := Lib.hid (H.out.ext verbR_stab hb)
  clear hb
  have R0 := Lib.hid hR0
  have lR0 := R0.out.lt
  clear hR0
  go_wp2_with fail
  refine (KV.out _ H.out).mono ?_
  rw [H1.out]
  rintro e w1 ⟨rfl, hb⟩
  replace E := Lib.hid (Ext.trans E.out hb)
  replace H := Lib.hid (H.out.ext verbR_stab hb)
  replace R0 := Lib.hid (R0.out.ext hb)
  have lR0 := R0.out.lt
  clear hb
  cases d1
  · have Hf : Hid (R = ([], false)) := Lib.hid (by rw [HR.out]; simp)
    go_wp2
    go_ret2
    rw [Hf.out]; exact retRvV_nil E.out
  · have hn30 := (pathOk_to H1.out).2
    obtain ⟨ok1, ok2, ok3⟩ := ringsL_ok H1.out
    obtain ⟨S, hS⟩ : ∃ S, ringsL vs = S := ⟨_, rfl⟩
    have HS := Lib.hid hS
    rw [hS] at ok1 ok2 ok3 HR
    have Hk1 := Lib.hid ok1
    clear hS ok1
    go_wp2_with fail
    refine (c_srings A cap vs w1 H.out H1.out).mono ?_
    rw [HS.out]
    rintro e w2 ⟨A2, cap2, ss2, rfl, ho, hb⟩
    replace E := Lib.hid (Ext.trans E.out hb)
    replace H := Lib.hid (H.out.ext verbR_stab hb)
    replace R0 := Lib.hid (R0.out.ext hb)
    have lR0 := R0.out.lt
    clear hb
    have G := Lib.hid (ho)
    clear ho
    have hzw : w.heap.size ≤ w2.heap.size := E.out.size
    replace G := Lib.hid (G.out.rebase (B' := w.heap.size) (by omega))
    have O0 : Hid (OVb w2 w.heap.size 27 54 (.slice (some ⟨w.heap.size, 0, none⟩) 0 0) [] []) := Lib.hid ⟨rfl, own_of_row (n := 0) (B := w.heap.size) (sz := 2) R0.out (Nat.le_refl _) rfl (by decide), fun i hi => by simp at hi, fun i j hi => by simp at hi⟩
    go_wp2_with fail
    go_loopw [4, 6, 7, 8] (fun v4 i _ _ wr => ∃ (k : Nat) (A4 : Option Addr) (cap4 : Nat) (qs : List Vb) (ss : List Value), k ≤ S.length ∧ i = .int .i64 k ∧ v4 = .slice A4 qs.length cap4 ∧ qs = revV (S.take k) ∧ OVb wr w.heap.size 27 54 (.slice A4 qs.length cap4) qs ss ∧ OR wr w.heap.size (.slice A2 S.length cap2) S ss2 ∧ Below w.heap.size w wr) (fun _ i _ _ _ => S.length - (intOf i).toNat)
    case atStart => exact ⟨0, _, 0, [], [], Nat.zero_le _, rfl, rfl, rfl, O0.out, G.out, E.out⟩
    case round =>
      obtain ⟨k, A4, cap4, qs, ss, hk, rfl, rfl, hqs, ho4, hg4, hbw⟩ := hrel
      have Hqs := Lib.hid hqs
      have O := Lib.hid ho4
      have X := Lib.hid hbw
      have Gr := Lib.hid hg4
      have hzr : w.heap.size ≤ wr.heap.size := hbw.size
      clear hqs ho4 hg4 hbw O0
      have hcor : corners (S.take k) ≤ 240 := by
        have h1 : corners S = corners (S.take k) + corners (S.drop k) := by rw [← corners_append, List.take_append_drop]
        omega
      have hql : qs.length ≤ 271 := by rw [Hqs.out, revV_len, List.length_take]; omega
      by_cases hlt : k < S.length
      · obtain ⟨b, off, hA, _, hc⟩ := (Gr.out.in_).rgs (by omega)
        obtain ⟨Ar, capr, cr, hp, hc1, hc2⟩ := hc k hlt
        have hr0 := (Hk1.out S[k] (List.getElem_mem hlt)).2
        have hr240 : (S[k]).length ≤ 240 := by
          have h1 := corners_take hlt
          have h2 : corners S = corners (S.take (k + 1)) + corners (S.drop (k + 1)) := by rw [← corners_append, List.take_append_drop]
          omega
        have Hn : Hid (revV (S.take (k + 1)) = revV (S.take k) ++ polyV (S[k].reverse.take S[k].length) ++ [(4, [])]) := Lib.hid (revV_take hlt)
        have hkI : decide ((k : Int) < (S.length : Int)) = true := by simp; omega
        have hkI2 : (k : Int) < (S.length : Int) := by omega
        subst hA
        obtain ⟨r, hr⟩ : ∃ r, S[k] = r := ⟨_, rfl⟩
        have Hr := Lib.hid hr
        rw [hr] at cr hp hc1 hr0 hr240 Hn
        have Hp := Lib.hid hp
        have Q : Hid (0 < r.length) := Lib.hid hr0
        have g1 : IntKind.i64.wrap ((r.length : Int) - 1) = (r.length : Int) - 1 := IntWalk.i64_in _ (by omega)
        clear hc hp hr hc1
        go_wp2_with fail
        clear g1 cr
        go_loopw [4, 7, 8] (fun v4 c _ w3 => ∃ (j m : Nat) (A5 : Option Addr) (cap5 : Nat) (ps : List Vb) (s5 : List Value), j + m = r.length ∧ c = .int .i64 ((m : Int) - 1) ∧ v4 = .slice A5 ps.length cap5 ∧ ps = qs ++ polyV (r.reverse.take j) ∧ OVb w3 w.heap.size 27 54 (.slice A5 ps.length cap5) ps s5 ∧ OR w3 w.heap.size (.slice (some ⟨b, off, none⟩) S.length cap2) S ss2 ∧ Below w.heap.size w w3) (fun _ c _ _ => (intOf c + 1).toNat)
        case atStart => exact ⟨0, r.length, _, _, qs, ss, by omega, by go_num, rfl, by simp [polyV], O.out, Gr.out, X.out⟩
        case round =>
          obtain ⟨j, m, A5, cap5, ps, s5, hjm, rfl, rfl, hps, ho5, hg5, hb5⟩ := hrel
          have Hps := Lib.hid hps
          have O5 := Lib.hid ho5
          have G5 := Lib.hid hg5
          have X5 := Lib.hid hb5
          have hz5 : w.heap.size ≤ wr.heap.size := hb5.size
          have hpl : ps.length ≤ 600 := by rw [hps, List.length_append, polyV_len, List.length_take, List.length_reverse]; omega
          clear hps ho5 hg5 hb5
          cases m with
          | zero =>
            have hj : j = r.length := by omega
            have Hp5 : Hid (ps = qs ++ polyV (r.reverse.take r.length)) := Lib.hid (by rw [Hps.out, hj])
            have hcI : decide ((0 : Int) ≤ ((0 : Nat) : Int) - 1) = false := by simp
            clear hj hpl
            have hpl : ps.length ≤ 600 := by rw [Hp5.out, List.length_append, polyV_len, List.length_take, List.length_reverse]; omega
            go_wp2_with (at_builtin; refine stop_in ?_)
            refine stop_out ?_
            refine gen_list (fun W hW => ?_)
            obtain ⟨E6, r1⟩ := new1 (c1 := [_, _]) hW
            clear hW
            have hzW := E6.size
            refine wpList_app (base := w.heap.size) ei_vb rfl (.tmp 52) (.tmp 54) rfl rfl (own_ext O5.out.out E6) rfl ((own_of_row (B := 0) (sz := 2) (n := 1) r1 (by omega) rfl (by decide)).src (by intro u hu; simp only [List.mem_cons, List.not_mem_nil, or_false] at hu; rcases hu with rfl | rfl <;> rfl)) (by omega) (by omega) ?_
            intro ve we hown hg hat
            obtain ⟨A6, cap6, hve⟩ := own_form hown
            have O6 := Lib.hid (O5.out.push (x := (4, [])) (s := .slice none 0 0) TP_ne_TV E6 (own_nil _ _ _ _) (fun g hg => by cases hg) hown hg)
            have G6 := Lib.hid ((G5.out.ext E6).grownNe (own_ext O5.out.out E6) TV_ne_TP TV_ne_TR hg)
            have X6 := Lib.hid (own_below (Ext.trans X5.out E6) (own_ext O5.out.out E6) hg (by omega))
            clear hown hg hat E6 r1 hzW
            subst hve
            go_wp2
            go_roundw
            case rel => exact ⟨k + 1, A6, cap6, _, _, by omega, by go_num, sl_len, by rw [Hn.out, ← Hqs.out, ← Hp5.out], OVb.lens O6.out, G6.out, X6.out⟩
            case measure => simp [intOf]; omega
          | succ m =>
            have e : ((m + 1 : Nat) : Int) - 1 = (m : Int) := by omega
            rw [e]
            clear e
            obtain ⟨b2, off2, hA, _, hc⟩ := (G5.out.in_).rgs (by omega)
            obtain ⟨rfl, rfl⟩ : b = b2 ∧ off = off2 := by simpa using hA
            obtain ⟨Ar, capr, cr, hp, hc1, hc2⟩ := hc k hlt
            rw [Hr.out] at cr hp hc1
            obtain ⟨b3, off3, hA3, _, hd⟩ := hp.pts (by omega)
            subst hA3
            have hmr : m < r.length := by omega
            obtain ⟨cx, cy⟩ := hd m hmr
            have hjr : j < r.reverse.length := by simp; omega
            have Hst : Hid (polyV (r.reverse.take (j + 1)) = polyV (r.reverse.take j) ++ [(if 0 < j then 1 else 0, [r[m]])]) := Lib.hid (by
              rw [polyV_take hjr]
              have : r.reverse[j] = r[m] := by rw [List.getElem_reverse]; congr 1; omega
              rw [this])
            have g1 : IntKind.i64.wrap ((r.length : Int) - 1) = (r.length : Int) - 1 := IntWalk.i64_in _ (by omega)
            have hcI : (0 : Int) ≤ (m : Int) := by omega
            have hmI : (m : Int) < (r.length : Int) := by omega
            obtain ⟨kd, Hkd, hb0⟩ : ∃ kd : Int, Hid (kd = if 0 < j then 1 else 0) ∧ (((m : Int) == (r.length : Int) - 1) = true ∧ kd = 0 ∨ ((m : Int) == (r.length : Int) - 1) = false ∧ kd = 1) := by
              refine ⟨_, Lib.hid rfl, ?_⟩
              rcases Nat.eq_zero_or_pos j with h0 | h0
              · left; simp [h0]; omega
              · right; rw [if_pos h0]; exact ⟨by simp; omega, rfl⟩
            generalize r[m] = pt at *
            clear hc hd hA hp hjr hc1
            rcases hb0 with ⟨hb0, hk0⟩ | ⟨hb0, hk0⟩
            all_goals
              subst hk0
              go_wp2_with (at_builtin; refine stop_in ?_)
              refine stop_out ?_
              refine gen_list (fun W hW => ?_)
              obtain ⟨E6, r1, r2⟩ := new2 (c1 := [_, _]) (c2 := [_, _]) hW
              clear hW
              have hzW := E6.size
              refine wpList_app (base := w.heap.size) ei_vb rfl (.tmp 39) (.tmp 50) rfl rfl (own_ext O5.out.out E6) rfl ((own_of_row (B := 0) (sz := 2) (n := 1) r2 (by omega) rfl (by decide)).src (by intro u hu; simp only [List.mem_cons, List.not_mem_nil, or_false] at hu; rcases hu with rfl | rfl <;> rfl)) (by omega) (by omega) ?_
              intro ve we hown hg hat
              obtain ⟨A6, cap6, hve⟩ := own_form hown
              have O6 := Lib.hid (O5.out.push (x := (_, [pt])) (s := .slice (some ⟨wr.heap.size, 0, none⟩) 1 1) TP_ne_TV E6 (own_of_row (n := 1) r1 (by omega) rfl (by decide)) (fun g hg => by simp [Value.ownBlock] at hg; omega) hown hg)
              have G6 := Lib.hid ((G5.out.ext E6).grownNe (own_ext O5.out.out E6) TV_ne_TP TV_ne_TR hg)
              have X6 := Lib.hid (own_below (Ext.trans X5.out E6) (own_ext O5.out.out E6) hg (by omega))
              clear hown hg hat E6 r1 r2 hzW
              subst hve
              go_wp2
              go_roundw
              case rel => exact ⟨j + 1, m, A6, cap6, _, _, by omega, rfl, sl_len, by rw [Hst.out, ← Hkd.out, Hps.out, List.append_assoc], OVb.lens O6.out, G6.out, X6.out⟩
              case measure => simp [intOf]
      · have hkk : k = S.length := by omega
        have hkI : decide ((k : Int) < (S.length : Int)) = false := by simp; omega
        have hq : qs = revV S := by rw [Hqs.out, hkk, List.take_length]
        have Hq := Lib.hid hq
        obtain ⟨d2, hd2⟩ : ∃ d, pathOk qs = d := ⟨_, rfl⟩
        have P : Hid (Vbs wr A4 qs) := Lib.hid O.out.in_
        have KV2 := Lib.hid (fun W hW => c_sValidPath A4 cap4 qs W hW (by omega) (fun v hv => by rw [hq] at hv; have := revV_small S v hv; omega))
        have H2 := Lib.hid hd2
        clear hkk hq hd2
        go_wp2_with fail
        refine (KV2.out _ P.out).mono ?_
        rw [H2.out]
        rintro e w5 ⟨rfl, hb⟩
        replace X := Lib.hid (Ext.trans X.out hb)
        replace P := Lib.hid (P.out.ext verbR_stab hb)
        replace O := Lib.hid (O.out.ext hb)
        clear hb
        cases d2
        · have Hf : Hid (R = ([], false)) := Lib.hid (by rw [HR.out, ← Hq.out, H2.out]; simp)
          go_wp2
          go_ret2
          rw [Hf.out]; exact retRvV_nil X.out
        · have Hf : Hid (R = (qs, true)) := Lib.hid (by rw [HR.out, ← Hq.out, H2.out]; simp)
          go_wp2
          go_ret2
          rw [Hf.out]
          exact ⟨A4, cap4, ss, rfl, O.out, X.out⟩
end Go.Proofs.Ytkjbkbincmcioaa
