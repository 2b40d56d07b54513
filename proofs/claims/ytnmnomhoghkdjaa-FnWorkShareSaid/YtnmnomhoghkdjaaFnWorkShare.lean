/- The shares of the workers add up, and count what the order of work says, whatever the bytes that the numbers and the turns are drawn from. -/
import Derived.Test.YtnmnomhoghkdjaaWorkP
import Derived.Test.YtnmnomhoghkdjaaGenW
import Derived.Test.YtnmnomhoghkdjaaEqualI
import Derived.Test.YtnmnomhoghkdjaaOpen
namespace Go.Proofs.Ytnmnomhoghkdjaa.fnWorkShare
open Go Go.RowKit Go.ChangeShapes Go.WideShapes Go.ChangeAt Go.Deep Reg
attribute [local go_sem] calmAt calmUpon

theorem own : ownKnob Try.prog.godebug = none := by kernel_rfl
theorem laidOut : laidOutB Try.prog = true := by kernel_rfl

set_option maxRecDepth 100000 in
set_option maxHeartbeats 4000000 in
theorem walk (A : Option Addr) (cap : Nat) (bs : List Int) (w : World) (h : In byteR 1 w A bs) (hlc : bs.length ≤ cap) (hcm : cap ≤ maxLen) :
    Calls Try.prog 5 #[.slice A bs.length cap] w fun e w' => e = .returned (.bool true) ∧ Below w.heap.size w w' := by
  unfold maxLen at hcm
  by_cases hn : bs.length ≤ 1048576
  · have hnI : ¬ (1048576 : Int) < (bs.length : Int) := by omega
    have E := Lib.hid (Below.refl w.heap.size w)
    have K0 := Lib.hid (c_DrawWorkShare A cap bs w h hlc (by omega))
    clear h hn
    go_enter Try.func5, Try.ntmps5
    go_wp2_with fail
    refine (K0.out).mono ?_
    rintro e w1 ⟨n, W, A1, cap1, ts, rfl, htl, hnb, ho1, hb⟩
    replace E := Lib.hid (Ext.trans E.out hb)
    clear hb
    have P1 := Lib.hid (own_in (R := ptR) (enc := ptC) ptC_len (by decide) ho1 (fun _ => rfl))
    clear ho1 K0
    have hrl := shareR_bd n W ts
    have Hfa := Lib.hid (fun h => shareR_facts (n := n) (W := W) (ts := ts) h)
    obtain ⟨rs, hS⟩ : ∃ S, shareR n W ts = S := ⟨_, rfl⟩
    have HS := Lib.hid hS
    rw [hS] at hrl Hfa
    clear hS
    go_wp2_with fail
    refine (c_iWorkShare n W A1 cap1 ts _ P1.out (by omega)).mono ?_
    rw [HS.out]
    rintro e w2 ⟨A2, cap2, rfl, ho2, hb⟩
    replace E := Lib.hid (Ext.trans E.out hb)
    replace P1 := Lib.hid (P1.out.ext ptR_stab hb)
    clear hb
    have I2 := Lib.hid ((own_in (R := intR) (enc := intC) intC_len' (by decide) ho2 (fun _ => rfl)))
    clear ho2
    go_wp2_with fail
    refine (c_sWorkShare n W A1 cap1 ts _ P1.out (by omega)).mono ?_
    rw [HS.out]
    rintro e w3 ⟨A3, cap3, rfl, ho3, hb⟩
    replace E := Lib.hid (Ext.trans E.out hb)
    replace P1 := Lib.hid (P1.out.ext ptR_stab hb)
    replace I2 := Lib.hid (I2.out.ext intR_stab hb)
    clear hb
    have I3 := Lib.hid ((own_in (R := intR) (enc := intC) intC_len' (by decide) ho3 (fun _ => rfl)))
    clear ho3
    go_wp2_with fail
    refine (c_equalInts A2 A3 cap2 cap3 rs _ I2.out I3.out (by omega)).mono ?_
    rintro e w4 ⟨rfl, hb⟩
    replace E := Lib.hid (Ext.trans E.out hb)
    replace P1 := Lib.hid (P1.out.ext ptR_stab hb)
    replace I2 := Lib.hid (I2.out.ext intR_stab hb)
    replace I3 := Lib.hid (I3.out.ext intR_stab hb)
    clear hb
    by_cases h0 : rs.length = 0
    · have hb0 : (((rs.length : Nat) : Int) == 0) = true := by simp; exact List.eq_nil_of_length_eq_zero h0
      clear h0
      go_wp2_with fail
      refine (c_sWorkShare n W A1 cap1 ts _ P1.out (by omega)).mono ?_
      rw [HS.out]
      rintro e w5 ⟨A5, cap5, rfl, ho5, hb⟩
      replace E := Lib.hid (Ext.trans E.out hb)
      replace P1 := Lib.hid (P1.out.ext ptR_stab hb)
      replace I2 := Lib.hid (I2.out.ext intR_stab hb)
      replace I3 := Lib.hid (I3.out.ext intR_stab hb)
      clear hb
      have I5 := Lib.hid ((own_in (R := intR) (enc := intC) intC_len' (by decide) ho5 (fun _ => rfl)))
      clear ho5
      go_wp2_with fail
      refine (c_equalInts A2 A5 cap2 cap5 rs _ I2.out I5.out (by omega)).mono ?_
      rintro e w6 ⟨rfl, hb⟩
      replace E := Lib.hid (Ext.trans E.out hb)
      replace P1 := Lib.hid (P1.out.ext ptR_stab hb)
      replace I2 := Lib.hid (I2.out.ext intR_stab hb)
      replace I3 := Lib.hid (I3.out.ext intR_stab hb)
      replace I5 := Lib.hid (I5.out.ext intR_stab hb)
      clear hb
      go_wp2
      go_ret
      exact ⟨rfl, E.out⟩
    · have hb0 : (((rs.length : Nat) : Int) == 0) = false := by simp; intro hh; subst hh; simp at h0
      obtain ⟨hv, hsh, hsum, hlen⟩ := Hfa.out (by omega)
      have hnn := inB_iff.1 hv.1
      obtain ⟨hW, _, _⟩ := wvB_sc hv.2

      have hrb := workR_bd n W ts
      obtain ⟨L, hL⟩ : ∃ L, workR n W ts = L := ⟨_, rfl⟩
      have HL := Lib.hid hL
      rw [hL] at hsh hrb
      have hbd : Hid (∀ x ∈ rs, 0 ≤ x ∧ x ≤ 1000) := Lib.hid (fun x hx => by rw [hsh] at hx; have := shareL_bd x hx; omega)
      have Hsh := Lib.hid hsh
      have Hsum := Lib.hid hsum
      have Hlen := Lib.hid hlen
      obtain ⟨wn, rfl⟩ : ∃ wn : Nat, W = wn := ⟨W.toNat, by omega⟩
      have hwn : rs.length = wn := by omega
      have Hwn := Lib.hid hwn
      clear hwn hv hsh hsum hlen Hfa HS h0 hL
      go_wp2_with fail
      refine (c_iWorkOrder n wn A1 cap1 ts _ P1.out (by omega)).mono ?_
      rw [HL.out]
      rintro e w5 ⟨A5, cap5, rfl, ho5, hb⟩
      replace E := Lib.hid (Ext.trans E.out hb)
      replace P1 := Lib.hid (P1.out.ext ptR_stab hb)
      replace I2 := Lib.hid (I2.out.ext intR_stab hb)
      clear hb
      have P5 := Lib.hid ((own_in (R := ptR) (enc := ptC) ptC_len (by decide) ho5 (fun _ => rfl)))
      clear ho5
      obtain ⟨wo, hwo⟩ : ∃ wo : World, wo = w5 := ⟨_, rfl⟩
      subst hwo
      go_wp2_with fail
      go_loopw [8, 9, 10] (fun r _ _ wr => ∃ r' : Nat, r' ≤ wn ∧ r = .int .i64 r' ∧ wr = wo) (fun r _ _ _ => wn - (intOf r).toNat)
      case atStart => exact ⟨0, Nat.zero_le _, rfl, rfl⟩
      case round =>
        obtain ⟨r, hr, rfl, rfl⟩ := hrel
        by_cases hlt : r < wn
        · have hrd : decide ((r : Int) < (wn : Int)) = true := decide_eq_true (by omega)
          go_wp2_with fail
          go_loopw [9, 10] (fun c i wx => ∃ (k m : Nat), k ≤ L.length ∧ i = .int .i64 k ∧ c = .int .i64 (m : Int) ∧ m = (L.take k).countP (fun d => decide (d.1 = (r : Int))) ∧ wx = wr) (fun _ i _ => L.length - (intOf i).toNat)
          case atStart => exact ⟨0, 0, Nat.zero_le _, rfl, rfl, by simp, rfl⟩
          case round =>
            obtain ⟨k, m, hk, rfl, rfl, hm, rfl⟩ := hrel
            have hmb : m ≤ 16 := by
              rw [hm]
              have := List.countP_le_length (p := fun d : Pt => decide (d.1 = (r : Int))) (l := L.take k)
              rw [List.length_take] at this
              omega
            have Hm := Lib.hid hm
            clear hm
            by_cases hkl : k < L.length
            · obtain ⟨b, off, hA, hb, hc⟩ := P5.out.pts (by omega)
              obtain ⟨cx, cy⟩ := hc k hkl
              have hkI : (k : Int) < (L.length : Int) := by omega
              have hkd : decide ((k : Int) < (L.length : Int)) = true := decide_eq_true hkI
              have Hn := Lib.hid (fun (q : Nat) (hq : (if L[k].1 = (r : Int) then 1 else 0) = q) => (show m + q = (L.take (k + 1)).countP (fun d => decide (d.1 = (r : Int))) by
                rw [List.take_succ_eq_append_getElem hkl, List.countP_append, ← Hm.out, ← hq]; simp [List.countP_cons]))
              clear hc
              generalize L[k] = d at *
              obtain ⟨x, y⟩ := d
              dsimp only at cx cy Hn
              clear cy
              subst hA
              by_cases hx : x = (r : Int)
              · have H1 := Lib.hid (Hn.out 1 (by rw [if_pos hx]))
                subst hx
                go_wp2
                go_roundw
                case rel => exact ⟨k + 1, m + 1, by omega, by go_num, by go_num, H1.out, by first | rfl | trivial⟩
                case measure => simp [intOf]; omega
              · have H1 := Lib.hid (Hn.out 0 (by rw [if_neg hx]))
                have hxb : (x == (r : Int)) = false := by simp [hx]
                go_wp2
                go_roundw
                case rel => exact ⟨k + 1, m, by omega, by go_num, rfl, H1.out, by first | rfl | trivial⟩
                case measure => simp [intOf]; omega
            · have hkd : decide ((k : Int) < (L.length : Int)) = false := decide_eq_false (by omega)
              have hk' : k = L.length := by omega
              obtain ⟨b, off, hA, _, hc⟩ := I2.out.ints (by have := Hwn.out; omega)
              have cr := hc r (by have := Hwn.out; omega)
              have hrv : rs[r]'(by have := Hwn.out; omega) = (m : Int) := by
                have h1 : rs[r]'(by have := Hwn.out; omega) = (shareL wn L)[r]'(by rw [shareL_len]; exact hlt) := by
                  have := Hsh.out
                  simp only [Int.toNat_natCast] at this
                  simp only [this]
                rw [h1, shareL_get hlt, Hm.out, hk', List.take_length]
              rw [hrv] at cr
              have hrI : (r : Int) < (rs.length : Int) := by have := Hwn.out; omega
              have hrI2 : ¬ (rs.length : Int) ≤ (r : Int) := by have := Hwn.out; omega
              clear hc hrv hk'
              subst hA
              go_wp2
              go_roundw
              case rel => exact ⟨r + 1, by omega, by go_num, by first | rfl | trivial⟩
              case measure => simp [intOf]; omega
        · have hrd : decide ((r : Int) < (wn : Int)) = false := decide_eq_false (by omega)
          have hnd : (n == n) = true := by simp
          have hld : (((rs.length : Nat) : Int) == (wn : Int)) = true := by have := Hlen.out; simp; omega
          go_wp2_with fail
          refine (c_sum A2 cap2 rs _ I2.out (by omega) hbd.out).mono ?_
          rw [Hsum.out]
          rintro e w' ⟨rfl, rfl⟩
          go_wp2
          go_ret
          exact ⟨rfl, E.out⟩
  · have hnI : (1048576 : Int) < (bs.length : Int) := by omega
    clear h
    go_enter Try.func5, Try.ntmps5
    go_wp2
    go_ret
    exact ⟨rfl, Below.refl _ _⟩

theorem opens0 : Opens Try.prog 22 (slR byteR 1 ) :=  opens_slice Try.underlying22 (by kernel_rfl) (by decide) (opens_byte Try.underlying5)
set_option maxRecDepth 100000 in
theorem lifted (os : Os) (started : os.Started) (H : Type) (enc : TypeId × Value → H) :
    ReturnsInHanded {} Try.checked os 5 .any (Rows.fnWorkShareSpec.pre6 enc Try.prog Try.f5 Rows.fnWorkShareRow.domain false) (Rows.fnWorkShareSpec.post enc Try.prog Try.f5 false true false false) := by
  refine returnsInHanded_of_change (C := Try.checked) own started (by kernel_rfl) Try.func5
    (ChangeSpec.witness6 (enc := enc) (C := Try.checked) false ⟨#[], #[.slice none 0 0], []⟩ 8 (by kernel_rfl) (by kernel_rfl) (by kernel_rfl) (by kernel_rfl)) ?_
  intro W base args ds gs before hval0 hW hcnd _
  have hval : ∀ (j : Nat) t v, Try.f5.params[j]? = some t → args[j]? = some v → Value.okWide Try.prog W .any base t v := hval0
  have hW' := hW
  obtain ⟨p, q, hA0, hV, rfl, hfz, hnd⟩ := hW
  have hA : DataW.TrodAll enc Try.prog W 0 (fun _ => true) true Try.f5.params.toList args.toList ds p := hA0
  rw [Try.params5] at hA hval
  obtain ⟨v0, vs0, d0, ds0, p0, q0, hargs, rfl, rfl, h0, r0⟩ := trodAll_cons hA
  obtain ⟨rfl, rfl, rfl⟩ := trodAll_nil r0
  obtain rfl : args = #[v0] := by cases args; simp_all
  obtain ⟨rfl, rfl, rfl⟩ := trodVars_none hV
  obtain ⟨a0, len0, cap0, rfl⟩ := okWide_slice Try.underlying22 (hval 0 22 v0 rfl rfl)
  have k0 := h0
  have lt0 : ∀ x ∈ p0, x.block < W.heap.size := by obtain ⟨m, hm⟩ := k0; exact DataW.trod_lt m _ _ _ hm
  obtain ⟨xs0, rfl, w0, wl0, wc0⟩ := open_arg rfl opens0 h0
  clear hA0 hval0
  refine (walk a0 cap0 xs0 W w0 wl0 wc0).mono fun e W' ⟨he, bel⟩ => ?_
  subst he
  exact ⟨_, rfl, _, _, _, [], _, [], hW', trodAll_mk1 (shut_bool Try.underlying4 _), (trodAll_cons_mk (Below.trod laidOut (by kernel_rfl) (of_decide_eq_true (by kernel_rfl)) k0 bel lt0) trodAll_mk0), rfl, bel.frame _, fun h => by cases h⟩
theorem over : Rows.fnWorkShareRow.holds Try.pinned (OpenSpec.ofChange Rows.fnWorkShareSpec) :=
  OpenClaim.holds_of_wide 5 Try.f5 rfl rfl rfl rfl rfl rfl rfl ⟨rfl, rfl, rfl, rfl, rfl⟩ rfl rfl rfl rfl rfl (by kernel_rfl) Try.func5 (by kernel_rfl)
    (of_decide_eq_true (by kernel_rfl)) (by unfold Func.isWrapper; first | (rw [if_pos (by decide +kernel)]; kernel_rfl) | (rw [if_neg (by decide +kernel)]; exact ⟨rfl, rfl⟩))
    (fun os started H enc _ => lifted os started H enc)

theorem proved : Rows.FnWorkShareSaid := over

end Go.Proofs.Ytnmnomhoghkdjaa.fnWorkShare

