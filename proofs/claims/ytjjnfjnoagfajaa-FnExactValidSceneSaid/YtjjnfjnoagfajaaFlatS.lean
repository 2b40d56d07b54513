/-
  Curves flattened: the reference's walk.
-/
import Derived.Test.YtjjnfjnoagfajaaBendS
import Derived.Test.YtjjnfjnoagfajaaSplitS
namespace Go.Proofs.Ytjjnfjnoagfajaa
open Go Go.RowKit Reg
attribute [local go_sem] calmAt calmUpon
set_option maxRecDepth 100000 in
set_option maxHeartbeats 1000000 in
theorem c_sflatten (limit : Int) (d : Nat) : ∀ (A : Option Addr) (cap : Nat) (c : List Pt) (w : World), Pts w A c → VpAll c → 1 ≤ c.length → c.length ≤ 1000 → d ≤ 10 →
    Calls Try.prog 72 #[.slice A c.length cap, .int .i64 limit, .int .i64 d] w fun e w' => ∃ A' cap', e = .returned (.slice A' (flatL limit d c).length cap') ∧ Has w' w.heap.size 46 2 (.slice A' (flatL limit d c).length cap') (flatL limit d c).length ((flatL limit d c).flatMap ptC) ∧ Below w.heap.size w w' := by
  induction d with
  | zero =>
    intro A cap c w h hv h1 hl hd
    obtain ⟨b, off, hA, hb, hc⟩ := h.pts (by omega)
    subst hA
    obtain ⟨M, hM⟩ : ∃ M, M = c.length - 1 := ⟨_, rfl⟩
    have hMl : M < c.length := by omega
    have Hf : Hid (flatL limit 0 c = [c[M]]) := Lib.hid (by rw [flatL, lastD_at hM hMl])
    obtain ⟨ax, ay⟩ := hc M hMl
    have eM : ((c.length : Nat) : Int) - 1 = (M : Int) := by omega
    have eMI : (M : Int) < (c.length : Int) := by omega
    rw [Hf.out]
    clear h hv hc hM Hf
    generalize c[M] = p at *
    have i1 : (1 : Int) ≤ (c.length : Int) := by omega
    go_enter Try.func72, Try.ntmps72
    go_wp2
    go_ret
    exact ⟨_, 1, rfl, own_of_row (n := 1) (Row.new w 46 [.int .i64 p.1, .int .i64 p.2]) (Nat.le_refl _) rfl (by decide), ext_alloc _ _⟩
  | succ d ih =>
    intro A cap c w h hv h1 hl hd
    have IH := Lib.hid ih
    have H := Lib.hid h
    have Hv := Lib.hid hv
    have KB := Lib.hid (c_sbend A cap c w h hv h1 (by omega))
    clear ih
    have hdI : ((((d + 1 : Nat) : Nat) : Int) == 0) = false := by simp; omega
    have E := Lib.hid (Below.refl w.heap.size w)
    by_cases hb : bendL c ≤ limit
    · obtain ⟨b, off, hA, hb0, hc⟩ := h.pts (by omega)
      subst hA
      obtain ⟨M, hM⟩ : ∃ M, M = c.length - 1 := ⟨_, rfl⟩
      have hMl : M < c.length := by omega
      have Hf : Hid (flatL limit (d + 1) c = [c[M]]) := Lib.hid (by rw [flatL, if_pos hb, lastD_at hM hMl])
      obtain ⟨ax, ay⟩ := hc M hMl
      have eM : ((c.length : Nat) : Int) - 1 = (M : Int) := by omega
      have eMI : (M : Int) < (c.length : Int) := by omega
      rw [Hf.out]
      clear h hv hc hM Hf
      generalize c[M] = p at *
      have Ax := Lib.hid ax
      have Ay := Lib.hid ay
      have EM := Lib.hid eM
      clear ax ay eM
      generalize bendL c = bn at *
      have i1 : (1 : Int) ≤ (c.length : Int) := by omega
      go_enter Try.func72, Try.ntmps72
      go_wp2_with fail
      refine (KB.out).mono ?_
      rintro e w1 ⟨rfl, hb⟩
      replace E := Lib.hid (Ext.trans E.out hb)
      replace Ax := Lib.hid (Cls.cell hb Ax.out)
      replace Ay := Lib.hid (Cls.cell hb Ay.out)
      clear hb
      have cAx := Ax.out
      have cAy := Ay.out
      have eM := EM.out
      go_wp2
      go_ret
      exact ⟨_, 1, rfl, own_of_row (n := 1) (Row.new w1 46 [.int .i64 p.1, .int .i64 p.2]) E.out.size rfl (by decide), Ext.trans E.out (ext_alloc _ _)⟩
    · obtain ⟨v1, v2⟩ := splitL_vp hv (by omega)
      obtain ⟨l1, l2⟩ := splitL_len (c := c) (by omega)
      have Hf : Hid (flatL limit (d + 1) c = flatL limit d (splitL c).1 ++ flatL limit d (splitL c).2) := Lib.hid (by rw [flatL, if_neg hb])
      obtain ⟨F, hF⟩ : ∃ F, flatL limit (d + 1) c = F := ⟨_, rfl⟩
      rw [hF]
      have HF : Hid (flatL limit d (splitL c).1 ++ flatL limit d (splitL c).2 = F) := Lib.hid (by rw [← Hf.out, hF])
      clear hF Hf
      have hle1 := flatL_len limit d (splitL c).1
      have hle2 := flatL_len limit d (splitL c).2
      have hp2 : 2 ^ d ≤ 2 ^ 10 := Nat.pow_le_pow_right (by omega) (by omega)
      have hb1 : (flatL limit d (splitL c).1).length ≤ 1024 := by omega
      have hb2 : (flatL limit d (splitL c).2).length ≤ 1024 := by omega
      have hz1 : 1 ≤ (splitL c).1.length := by omega
      have hz2 : 1 ≤ (splitL c).2.length := by omega
      have hz3 : (splitL c).1.length ≤ 1000 := by omega
      have hz4 : (splitL c).2.length ≤ 1000 := by omega
      have KS := Lib.hid (fun W (hW : Pts W A c) => c_ssplit A cap c W hW hv (by omega) hl)
      have V1 := Lib.hid v1
      have V2 := Lib.hid v2
      clear h hv v1 v2 l1 l2 hle1 hle2 hp2
      generalize bendL c = bn at *
      generalize hsp : splitL c = sp at *
      clear hsp
      obtain ⟨s1, s2⟩ := sp
      try dsimp only at hz1 hz2 hz3 hz4 hb1 hb2 V1 V2 KS HF
      have eD : (((d + 1 : Nat) : Nat) : Int) - 1 = (d : Int) := by omega
      have ED := Lib.hid eD
      clear eD
      go_enter Try.func72, Try.ntmps72
      go_wp2_with fail
      refine (KB.out).mono ?_
      rintro e w1 ⟨rfl, hb⟩
      replace E := Lib.hid (Ext.trans E.out hb)
      replace H := Lib.hid (H.out.ext ptR_stab hb)
      clear hb
      go_wp2_with fail
      refine (KS.out _ H.out).mono ?_
      rintro e w2 ⟨A1, cap1, A2, cap2, rfl, hs1, hs2, hb⟩
      replace E := Lib.hid (Ext.trans E.out hb)
      replace H := Lib.hid (H.out.ext ptR_stab hb)
      clear hb
      have S1 := Lib.hid (hs1)
      clear hs1
      have S2 := Lib.hid (hs2)
      clear hs2
      have eD := ED.out
      have hzB : w.heap.size ≤ w2.heap.size := E.out.size
      go_wp2_with fail
      refine (IH.out A1 cap1 s1 _ S1.out V1.out hz1 hz3 (by omega)).mono ?_
      rintro e w3 ⟨A3, cap3, rfl, ho3, hb⟩
      replace E := Lib.hid (Ext.trans E.out hb)
      replace H := Lib.hid (H.out.ext ptR_stab hb)
      replace S1 := Lib.hid (S1.out.ext ptR_stab hb)
      replace S2 := Lib.hid (S2.out.ext ptR_stab hb)
      clear hb
      have O3 := Lib.hid ((ho3.rebase hzB))
      clear ho3
      have eD := ED.out
      go_wp2_with fail
      refine (IH.out A2 cap2 s2 _ S2.out V2.out hz2 hz4 (by omega)).mono ?_
      rintro e w4 ⟨A4, cap4, rfl, ho4, hb⟩
      replace E := Lib.hid (Ext.trans E.out hb)
      replace H := Lib.hid (H.out.ext ptR_stab hb)
      replace S1 := Lib.hid (S1.out.ext ptR_stab hb)
      replace S2 := Lib.hid (S2.out.ext ptR_stab hb)
      replace O3 := Lib.hid (own_ext O3.out hb)
      clear hb
      have P4 := Lib.hid ((own_in (enc := ptC) (R := ptR) ptC_len (by decide) ho4 (fun _ => rfl)))
      clear ho4 eD
      have hzE : w.heap.size ≤ w4.heap.size := E.out.size
      generalize flatL limit d s1 = f1 at *
      generalize flatL limit d s2 = f2 at *
      go_wp2_with (at_builtin; refine wpList_app (base := w.heap.size) ei_pt rfl (.tmp 33) (.tmp 38) rfl rfl O3.out rfl (P4.out.src ptC_len (fun x us h => h) ptC_one (by decide)) (by omega) hzE ?_; intro v w5 hown hg hat)
      obtain ⟨A5, cap5, hv5⟩ := own_form hown
      have O5 : Hid (Has w5 w.heap.size 46 2 (.slice A5 (f1 ++ f2).length cap5) (f1 ++ f2).length ((f1 ++ f2).flatMap ptC)) := Lib.hid (by
        rw [hv5] at hown; rw [List.length_append, List.flatMap_append]; exact hown)
      have hv5' : v = .slice A5 (f1 ++ f2).length cap5 := by rw [hv5, List.length_append]
      have E5 := Lib.hid (own_below E.out O3.out hg hzE)
      clear hown hg hat hv5
      subst hv5'
      go_wp2
      go_ret
      rw [← HF.out]
      exact ⟨A5, cap5, rfl, O5.out, E5.out⟩
end Go.Proofs.Ytjjnfjnoagfajaa
