/- A polygon is convex if its reverse is, and then nothing of it is needless, whatever the bytes that it is drawn from. -/
import Derived.Test.YtonilmpodijgeaaConvG
import Derived.Test.YtonilmpodijgeaaConvR
import Derived.Test.YtonilmpodijgeaaConvW
import Derived.Test.YtonilmpodijgeaaConvI
import Derived.Test.YtonilmpodijgeaaClean2
import Derived.Test.YtonilmpodijgeaaEqual
import Derived.Test.YtonilmpodijgeaaOpen
namespace Go.Proofs.Ytonilmpodijgeaa.fnIsConvex
open Go Go.RowKit Go.ChangeShapes Go.WideShapes Go.ChangeAt Go.Deep Reg
attribute [local go_sem] calmAt calmUpon

theorem own : ownKnob Try.prog.godebug = none := by kernel_rfl
theorem laidOut : laidOutB Try.prog = true := by kernel_rfl

set_option maxRecDepth 100000 in
set_option maxHeartbeats 8000000 in
theorem walk (A : Option Addr) (cap : Nat) (bs : List Int) (w : World) (h : In byteR 1 w A bs) (hlc : bs.length ≤ cap) (hcm : cap ≤ maxLen) :
    Calls Try.prog 12 #[.slice A bs.length cap] w fun e w' => e = .returned (.bool true) ∧ Below w.heap.size w w' := by
  unfold maxLen at hcm
  by_cases hn : bs.length ≤ 1048576
  · have hnI : ¬ (1048576 : Int) < (bs.length : Int) := by omega
    have K0 := Lib.hid (c_DrawIsConvex A cap bs w h hlc (by omega))
    clear h hn
    go_enter Try.func12, Try.ntmps12
    go_wp2_with fail
    refine K0.out.mono ?_
    rintro e w1 ⟨A1, cap1, ps, rfl, hpl, ho, hb⟩
    have E1 := Lib.hid hb
    have O1 := Lib.hid ho
    have H : Hid (Pts w1 A1 ps) := Lib.hid (own_in (R := ptR) (enc := ptC) ptC_len (by decide) O1.out (fun _ => rfl))
    have Sk := Lib.hid O1.out.slok
    clear ho hb K0
    obtain ⟨S, hS⟩ : ∃ S, implConvex ps = S := ⟨_, rfl⟩
    have HS := Lib.hid hS
    clear hS
    have HQ : Hid (specConvex ps = S) := Lib.hid (by rw [convex_eq]; exact HS.out)
    have E := Lib.hid (Below.refl w1.heap.size w1)
    go_wp2_with fail
    refine (c_implIsConvex A1 cap1 ps _ H.out (by omega)).mono ?_
    rw [HS.out]
    rintro e w2 ⟨rfl, hb⟩
    replace E := Lib.hid (Ext.trans E.out hb)
    replace H := Lib.hid (H.out.ext ptR_stab hb)
    clear hb
    go_wp2_with fail
    refine (c_specIsConvex A1 cap1 ps _ H.out (by omega)).mono ?_
    rw [HQ.out]
    rintro e w3 ⟨rfl, hb⟩
    replace E := Lib.hid (Ext.trans E.out hb)
    replace H := Lib.hid (H.out.ext ptR_stab hb)
    clear hb
    have hz3 : w1.heap.size ≤ w3.heap.size := E.out.size
    go_wp2_with fail
    first | refine gen_calls ?_ | refine gen_code ?_ | refine gen_list ?_
    intro w4 hW
    obtain ⟨hb, hR1⟩ := new1 hW
    clear hW
    replace E := Lib.hid (Ext.trans E.out hb)
    replace H := Lib.hid (H.out.ext ptR_stab hb)
    clear hb
    have R1 := Lib.hid hR1
    have lR1 := R1.out.lt
    clear hR1
    have P := Lib.hid (own_of_row (n := 0) (B := w1.heap.size) (sz := 2) R1.out hz3 rfl (by decide))
    clear R1 lR1
    go_wp2_with fail
    go_loopw [5, 6] (fun v i wr => ∃ (m j : Nat) (A2 : Option Addr) (cap2 : Nat) (qs : List Pt), m + j = ps.length ∧ i = .int .i64 ((j : Int) - 1) ∧ v = .slice A2 qs.length cap2 ∧ qs = (ps.drop j).reverse ∧ Has wr w1.heap.size 42 2 (.slice A2 qs.length cap2) qs.length (qs.flatMap ptC) ∧ Below w1.heap.size w1 wr) (fun _ i _ => (intOf i + 1).toNat)
    case atStart => exact ⟨0, ps.length, _, 0, [], by omega, rfl, rfl, by simp, P.out, E.out⟩
    case round =>
      obtain ⟨m, j, A2, cap2, qs, hmj, rfl, rfl, hqs, hpo, hx⟩ := hrel
      have Hmj := Lib.hid hmj
      have hj : j ≤ ps.length := by omega
      have hql : qs.length ≤ m := by rw [hqs]; simp; omega
      have Hqs := Lib.hid hqs
      have hmb : m ≤ 100 := by omega
      have H1 : Hid (Pts w1 A1 ps) := Lib.hid (own_in (R := ptR) (enc := ptC) ptC_len (by decide) O1.out (fun _ => rfl))
      clear H E P hmj hqs
      have E := Lib.hid hx
      have P := Lib.hid hpo
      have H := Lib.hid (H1.out.ext ptR_stab E.out)
      have hzx : w1.heap.size ≤ wr.heap.size := hx.size
      clear hx hpo
      by_cases hj0 : 0 < j
      · have hjl : j - 1 < ps.length := by omega
        obtain ⟨b3, off3, hA, _, hc⟩ := H.out.pts (by omega)
        obtain ⟨ax, ay⟩ := hc (j - 1) hjl
        have Hnx : Hid (qs ++ [ps[j - 1]] = (ps.drop (j - 1)).reverse) := Lib.hid (by
          have e : j - 1 + 1 = j := by omega
          rw [List.drop_eq_getElem_cons hjl, List.reverse_cons, e, Hqs.out])
        clear hc
        subst hA
        generalize ps[j - 1] = q at *
        have Ax := Lib.hid ax
        have Ay := Lib.hid ay
        clear ax ay
        have hneed : (0 : Int) ≤ (j : Int) - 1 ∧ (1 : Int) ≤ (j : Int) ∧ (j : Int) - 1 < (ps.length : Int) := by omega
        have n1 : ((j : Int) - 1).toNat = j - 1 := by omega
        obtain ⟨h1, h2, h3⟩ := hneed
        have ax := Ax.out
        have ay := Ay.out
        go_wp2_with (at_builtin; refine wpList_app (base := w1.heap.size) ei_pt rfl (.tmp 26) (.tmp 31) rfl rfl (own_ext P.out (ext_alloc _ _)) rfl (src_new _ _ [_, _] (m := 1) rfl (by intro u hu; simp only [List.mem_cons, List.not_mem_nil, or_false] at hu; rcases hu with rfl | rfl <;> rfl)) (by omega) (by simp; omega) ?_; intro ve w5 hown hg hat; refine stop_in ?_)
        refine stop_out ?_
        obtain ⟨A3, cap3, hve⟩ := own_form hown
        clear ax ay
        replace E := Lib.hid (Below.grown (Ext.trans E.out (ext_alloc _ _)) hg (by simp; omega) (fun k hk => by have := (P.out.lt k hk).1; omega))
        have heq : qs ++ [q] = (qs ++ [q]) := rfl
        replace P : Hid (Has w5 w1.heap.size 42 2 (.slice A3 ((qs ++ [q])).length cap3) ((qs ++ [q])).length (((qs ++ [q])).flatMap ptC)) := Lib.hid (by
          have q := hown
          rw [hve] at q
          rw [← heq, List.flatMap_append, List.length_append]
          exact q)
        have hvf : ve = .slice A3 ((qs ++ [q])).length cap3 := by rw [hve, ← heq, List.length_append]; rfl
        clear hve
        clear hown hg hat heq
        subst hvf
        clear n1
        go_wp2
        go_roundw
        case rel => exact ⟨m + 1, j - 1, A3, cap3, _, by have := Hmj.out; omega, by congr 1; omega, rfl, Hnx.out, P.out, E.out⟩
        case measure => simp [intOf]; omega
      · obtain rfl : j = 0 := by omega
        have Hf : Hid (implConvex qs = S) := Lib.hid (by rw [Hqs.out, List.drop_zero, implConvex_rev]; exact HS.out)
        have I : Hid (Pts wr A2 qs) := Lib.hid (own_in (R := ptR) (enc := ptC) ptC_len (by decide) P.out (fun _ => rfl))
        go_wp2_with fail
        refine (c_implIsConvex A2 cap2 qs _ I.out (by omega)).mono ?_
        rw [Hf.out]
        rintro e w6 ⟨rfl, hb⟩
        replace E := Lib.hid (Ext.trans E.out hb)
        replace H := Lib.hid (H.out.ext ptR_stab hb)
        clear hb
        cases S
        · go_wp2
          go_ret
          exact ⟨rfl, Ext.trans E1.out E.out⟩
        · have Hc : Hid (cleanR ps = ps) := Lib.hid (cleanR_convex HS.out)
          go_wp2_with fail
          refine (c_iCleanRing A1 cap1 ps _ H.out Sk.out (by omega)).mono ?_
          rw [Hc.out]
          rintro e w7 ⟨A7, cap7, rfl, ho7, hb⟩
          replace E := Lib.hid (Ext.trans E.out hb)
          replace H := Lib.hid (H.out.ext ptR_stab hb)
          clear hb
          have I7 : Hid (Pts w7 A7 ps) := Lib.hid (own_in (R := ptR) (enc := ptC) ptC_len (by decide) ho7 (fun _ => rfl))
          clear ho7
          go_wp2_with fail
          refine (c_equalPoints A7 A1 cap7 cap1 ps ps _ I7.out H.out (by omega) (by omega)).mono ?_
          rw [decide_eq_true (rfl : ps = ps)]
          rintro e w8 ⟨rfl, hb⟩
          replace E := Lib.hid (Ext.trans E.out hb)
          replace H := Lib.hid (H.out.ext ptR_stab hb)
          clear hb
          go_wp2
          go_ret
          exact ⟨rfl, Ext.trans E1.out E.out⟩
  · have hnI : (1048576 : Int) < (bs.length : Int) := by omega
    clear h
    go_enter Try.func12, Try.ntmps12
    go_wp2
    go_ret
    exact ⟨rfl, Below.refl _ _⟩

theorem opens0 : Opens Try.prog 47 (slR byteR 1 ) :=  opens_slice Try.underlying47 (by kernel_rfl) (by decide) (opens_byte Try.underlying5)
set_option maxRecDepth 100000 in
theorem lifted (os : Os) (started : os.Started) (H : Type) (enc : TypeId × Value → H) :
    ReturnsInHanded {} Try.checked os 12 .any (Rows.fnIsConvexSpec.pre6 enc Try.prog Try.f12 Rows.fnIsConvexRow.domain false) (Rows.fnIsConvexSpec.post enc Try.prog Try.f12 false true false false) := by
  refine returnsInHanded_of_change (C := Try.checked) own started (by kernel_rfl) Try.func12
    (ChangeSpec.witness6 (enc := enc) (C := Try.checked) false ⟨#[], #[.slice none 0 0], []⟩ 8 (by kernel_rfl) (by kernel_rfl) (by kernel_rfl) (by kernel_rfl)) ?_
  intro W base args ds gs before hval0 hW hcnd _
  have hval : ∀ (j : Nat) t v, Try.f12.params[j]? = some t → args[j]? = some v → Value.okWide Try.prog W .any base t v := hval0
  have hW' := hW
  obtain ⟨p, q, hA0, hV, rfl, hfz, hnd⟩ := hW
  have hA : DataW.TrodAll enc Try.prog W 0 (fun _ => true) true Try.f12.params.toList args.toList ds p := hA0
  rw [Try.params12] at hA hval
  obtain ⟨v0, vs0, d0, ds0, p0, q0, hargs, rfl, rfl, h0, r0⟩ := trodAll_cons hA
  obtain ⟨rfl, rfl, rfl⟩ := trodAll_nil r0
  obtain rfl : args = #[v0] := by cases args; simp_all
  obtain ⟨rfl, rfl, rfl⟩ := trodVars_none hV
  obtain ⟨a0, len0, cap0, rfl⟩ := okWide_slice Try.underlying47 (hval 0 47 v0 rfl rfl)
  have k0 := h0
  have lt0 : ∀ x ∈ p0, x.block < W.heap.size := by obtain ⟨m, hm⟩ := k0; exact DataW.trod_lt m _ _ _ hm
  obtain ⟨xs0, rfl, w0, wl0, wc0⟩ := open_arg rfl opens0 h0
  clear hA0 hval0
  refine (walk a0 cap0 xs0 W w0 wl0 wc0).mono fun e W' ⟨he, bel⟩ => ?_
  subst he
  exact ⟨_, rfl, _, _, _, [], _, [], hW', trodAll_mk1 (shut_bool Try.underlying4 _), (trodAll_cons_mk (Below.trod laidOut (by kernel_rfl) (of_decide_eq_true (by kernel_rfl)) k0 bel lt0) trodAll_mk0), rfl, bel.frame _, fun h => by cases h⟩
theorem over : Rows.fnIsConvexRow.holds Try.pinned (OpenSpec.ofChange Rows.fnIsConvexSpec) :=
  OpenClaim.holds_of_wide 12 Try.f12 rfl rfl rfl rfl rfl rfl rfl ⟨rfl, rfl, rfl, rfl, rfl⟩ rfl rfl rfl rfl rfl (by kernel_rfl) Try.func12 (by kernel_rfl)
    (of_decide_eq_true (by kernel_rfl)) (by unfold Func.isWrapper; first | (rw [if_pos (by decide +kernel)]; kernel_rfl) | (rw [if_neg (by decide +kernel)]; exact ⟨rfl, rfl⟩))
    (fun os started H enc _ => lifted os started H enc)

theorem proved : Rows.FnIsConvexSaid := over

end Go.Proofs.Ytonilmpodijgeaa.fnIsConvex
