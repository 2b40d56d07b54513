/-
  Paths turned round: the walk of the program, whose rounds go over slices.Backward.
-/
import Derived.Test.YtkjbkbincmcioaaBack
import Derived.Test.YtkjbkbincmcioaaRevPS
import Derived.Test.YtkjbkbincmcioaaRingsI
import Derived.Test.YtkjbkbincmcioaaPath
namespace Go.Proofs.Ytkjbkbincmcioaa
open Go Go.RowKit Reg
attribute [local go_sem] calmAt calmUpon Oper.semAt_some
theorem bodyPostM_ret {F : Fence} {n : Nat} {P : Program} {fn : Func} {R : Ending → World → Prop} {a : Act} {w : World} {v : Value} (h : (results fn a.tmps).run P w = .ok v w) (hd : a.defers = []) (hR : R (.returned v) w) : bodyPostM F n P fn R .ret a w := by
  obtain ⟨t, d⟩ := a
  dsimp only at hd
  subst hd
  exact ⟨v, h, hR⟩
theorem TVs_ne_TP : (24 : TypeId) ≠ 27 := by decide
theorem TVs_ne_TV : (24 : TypeId) ≠ 54 := by decide
theorem TVs_ne_TR : (24 : TypeId) ≠ 35 := by decide
theorem Has.keptB {w w' : World} {B e e2 sz n Bo : Nat} {v : Value} {xs cs : List Value} (h : Has w B e sz v n xs) (hr : Row w Bo e2 cs) (he : e2 ≠ e) (hg : w.grownBy w' (some Bo)) : Has w' B e sz v n xs := by
  refine h.kept hg ?_
  cases hv : v.ownBlock with
  | none => exact .inl rfl
  | some k =>
    refine .inr fun heq => ne_block hr h (fun e => he e.symm) ?_
    rw [hv, heq]
theorem OVb.keptB {w w' : World} {B TP TV e2 Bo : Nat} {v : Value} {vs : List Vb} {ss cs : List Value} (h : OVb w B TP TV v vs ss) (hr : Row w Bo e2 cs) (h1 : e2 ≠ TP) (h2 : e2 ≠ TV) (hg : w.grownBy w' (some Bo)) : OVb w' B TP TV v vs ss :=
  ⟨h.len, h.out.keptB hr h2 hg, fun i hi => (h.inn i hi).keptB hr h1 hg, h.nd⟩
theorem ORg.keptB {w w' : World} {B TP TR e2 Bo : Nat} {v : Value} {rs : List Rg} {ss cs : List Value} (h : ORg w B TP TR v rs ss) (hr : Row w Bo e2 cs) (h1 : e2 ≠ TP) (h2 : e2 ≠ TR) (hg : w.grownBy w' (some Bo)) : ORg w' B TP TR v rs ss :=
  ⟨h.len, h.out.keptB hr h2 hg, fun i hi => (h.inn i hi).keptB hr h1 hg, h.nd⟩
/-- What a ring's points, from its end, add to the path. -/
def gL (r : Rg) (pre : List (Nat × Pt)) : List Vb := pre.map fun x => (if (x.1 : Int) = (r.length : Int) - 1 then 0 else 1, [x.2])
theorem gL_len (r : Rg) (pre : List (Nat × Pt)) : (gL r pre).length = pre.length := by simp [gL]
theorem gL_all (r : Rg) : gL r (dnL r r.length) = polyV r.reverse := by
  apply List.ext_getElem
  · simp [gL, dnL, polyV_len]
  · intro i h1 h2
    rw [gL_len, dnL_len] at h1
    have h3 : r.length - 1 - i < r.length := by omega
    simp only [gL, dnL, polyV, List.getElem_map, List.getElem_range, List.getElem_zipIdx, List.getElem_reverse, List.getElem?_eq_getElem h3, Option.getD_some, Nat.zero_add]
    congr 1
    rcases Nat.eq_zero_or_pos i with h0 | h0
    · subst h0; simp; omega
    · rw [if_pos h0, if_neg (by omega)]
/-- Between two rounds. -/
structure RevI (w0 : World) (Bo Br Bs : Nat) (VG : Value) (S : List Rg) (ss2 : List Value) (VR : Value) (r : Rg) (Ds : List Nat) (qs : List Vb) (pre : List (Nat × Pt)) (W : World) : Prop where
  out : ∃ A5 cap5 ss5, Row W Bo 24 [.slice A5 (qs ++ gL r pre).length cap5] ∧ OVb W w0.heap.size 27 54 (.slice A5 (qs ++ gL r pre).length cap5) (qs ++ gL r pre) ss5
  rings : OR W w0.heap.size VG S ss2
  ring : Row W Br 35 [VR]
  box : Row W Bs 35 [VR]
  below : Below w0.heap.size w0 W
  marks : Marks W w0.heap.size Ds
section
variable {w0 : World} {Bo Br Bs : Nat} {VG : Value} {S : List Rg} {ss2 : List Value} {VR : Value} {r : Rg} {Ds : List Nat} {qs : List Vb} {pre : List (Nat × Pt)} {W W' : World}
theorem RevI.ext (h : RevI w0 Bo Br Bs VG S ss2 VR r Ds qs pre W) (hx : Ext W W') : RevI w0 Bo Br Bs VG S ss2 VR r Ds qs pre W' := by
  obtain ⟨A5, cap5, ss5, h1, h2⟩ := h.out
  exact ⟨⟨A5, cap5, ss5, h1.ext hx, h2.ext hx⟩, h.rings.ext hx, h.ring.ext hx, h.box.ext hx, Ext.trans h.below hx, h.marks.ext hx⟩
theorem RevI.own {B : Nat} (hB : w0.heap.size ≤ B) (hD : ∀ D ∈ Ds, D < B) : OwnFrom B (fun pre W => RevI w0 Bo Br Bs VG S ss2 VR r Ds qs pre W) := by
  intro pre W W' row h hg hr
  have hn := noCells_from hr
  obtain ⟨A5, cap5, ss5, h1, h2⟩ := h.out
  refine ⟨⟨A5, cap5, ss5, h1.keptO hg hn, h2.keptO hg hn⟩, h.rings.keptO hg hn, h.ring.keptO hg hn, h.box.keptO hg hn, Below.grown h.below hg h.below.size (fun k e => by have := (hr k e).1; omega), h.marks.1, fun D hDm => ⟨(h.marks.2 D hDm).1, (hg.block D (h.marks.lt D hDm) (fun e => ?_)).trans (h.marks.2 D hDm).2⟩⟩
  have h1 := (hr D e.symm).1
  have h2 := hD D hDm
  omega
theorem RevI.bk {k : Nat} {Ar : Option Addr} {capr : Nat} (h : RevI w0 Bo Br Bs VG S ss2 (.slice Ar r.length capr) r Ds qs pre W) (hk : k < S.length) (hS : S[k] = r) (hs : ss2[k]'(by have := h.rings.len; omega) = .slice Ar r.length capr) : Bk Bs Ar capr r W := by
  refine ⟨h.box.cell_of (i := 0) rfl, ?_⟩
  have hi := h.rings.inn k hk
  subst hS
  rw [hs] at hi
  exact own_in (enc := ptC) ptC_len (by decide) hi (fun _ => rfl)
/-- What an append to the path in a variable's block, and the store behind it, leave. -/
theorem boxed_push {w0 W W2 W3 : World} {Bo : Nat} {A5 : Option Addr} {cap5 : Nat} {vs : List Vb} {ss : List Value} {x : Vb} {s ve : Value} (h1 : Row W Bo 24 [.slice A5 vs.length cap5]) (h2 : OVb W w0.heap.size 27 54 (.slice A5 vs.length cap5) vs ss)
    (hx : Ext W W2) (hs : Has W2 w0.heap.size 27 2 s x.2.length (x.2.flatMap ptC)) (hf : ∀ g, s.ownBlock = some g → W.heap.size ≤ g) (hB : Below w0.heap.size w0 W)
    (hown : Has W3 w0.heap.size 54 2 ve (vs.length + 1) (zipC vs ss ++ [.int .i64 x.1, s])) (hg : W2.grownBy W3 (.slice A5 vs.length cap5 : Value).ownBlock) (hBo : w0.heap.size ≤ Bo) :
    Row W3 Bo 24 [.slice A5 vs.length cap5] ∧
    (∃ A6 cap6, ve = .slice A6 (vs ++ [x]).length cap6 ∧ Row (W3.setCell ⟨Bo, 0, none⟩ ve) Bo 24 [.slice A6 (vs ++ [x]).length cap6] ∧ OVb (W3.setCell ⟨Bo, 0, none⟩ ve) w0.heap.size 27 54 (.slice A6 (vs ++ [x]).length cap6) (vs ++ [x]) (ss ++ [s])) ∧
    KeepsFrom w0.heap.size W (W3.setCell ⟨Bo, 0, none⟩ ve) ∧ Below w0.heap.size w0 (W3.setCell ⟨Bo, 0, none⟩ ve) ∧
    (∀ VG S ss2, OR W w0.heap.size VG S ss2 → OR (W3.setCell ⟨Bo, 0, none⟩ ve) w0.heap.size VG S ss2) ∧ (∀ Br VR, Row W Br 35 [VR] → Row (W3.setCell ⟨Bo, 0, none⟩ ve) Br 35 [VR]) := by
  obtain ⟨A6, cap6, hve⟩ := own_form hown
  have hO2 := own_ext h2.out hx
  have r3 : Row W3 Bo 24 [.slice A5 vs.length cap5] := (h1.ext hx).grownNe hO2 (Ne.symm TVs_ne_TV) hg
  have O3 := h2.push TP_ne_TV hx hs hf hown hg
  have hg3 : W3.grownBy (W3.setCell ⟨Bo, 0, none⟩ ve) (some Bo) := grownBy_setCell' W3 Bo ve
  have K : KeepsOthers W2 W3 := KeepsOthers.of_grownBy hg fun j o ej hj => by
    obtain ⟨cur, fz, hc⟩ := own_row hO2 ej
    rw [hc] at hj; cases hj; rfl
  have K2 : KeepsFrom w0.heap.size W (W3.setCell ⟨Bo, 0, none⟩ ve) := by
    refine KeepsFrom.trans ?_ ((K.trans (KeepsOthers.setCell _ _ _)).from _)
    exact ⟨hx.size, fun k o _ hk _ => (hx.block k (Array.getElem?_eq_some_iff.1 hk).1).trans hk⟩
  subst hve
  refine ⟨r3, ⟨A6, cap6, by rw [← sl_len], ?_, OVb.lens (O3.keptB r3 TVs_ne_TP TVs_ne_TV hg3)⟩, K2, ?_, fun VG S ss2 h => ((h.ext hx).grownNe hO2 TV_ne_TP TV_ne_TR hg).keptB r3 TVs_ne_TP TVs_ne_TR hg3, fun Br VR h => ?_⟩
  · have q := r3.set_ 0 (.slice A6 (vs.length + 1) cap6)
    rw [List.set_cons_zero] at q
    rw [← sl_len]
    exact q
  · exact (own_below (Ext.trans hB hx) hO2 hg (by have := hx.size; have := hB.size; omega)).setCell (p := ⟨Bo, 0, none⟩) hBo _
  · have r5 := (h.ext hx).grownNe hO2 TV_ne_TR hg
    exact r5.far (fun he => by have hr3 := r3; dsimp only at he; subst he; unfold Row at r5 hr3; rw [r5] at hr3; injection hr3 with hr3; injection hr3 with _ h9; exact TVs_ne_TR h9.symm) _
theorem keepsFrom_up {B B' : Nat} {W W' : World} (h : KeepsFrom B W W') (hB : B ≤ B') : KeepsFrom B' W W' := ⟨h.size, fun k o hk => h.same k o (by omega)⟩
theorem keepsFrom_ext {B : Nat} {W W' : World} (h : Ext W W') : KeepsFrom B W W' := ⟨h.size, fun k _ _ hk _ => (h.block k (Array.getElem?_eq_some_iff.1 hk).1).trans hk⟩
theorem RevI.push {W2 W3 : World} {x : Nat × Pt} {A5 : Option Addr} {cap5 g2 : Nat} {ps : List Vb} {ss5 : List Value} {ve : Value} (h : RevI w0 Bo Br Bs VG S ss2 VR r Ds qs pre W) (hps : qs ++ gL r pre = ps) (h1 : Row W Bo 24 [.slice A5 ps.length cap5]) (h2 : OVb W w0.heap.size 27 54 (.slice A5 ps.length cap5) ps ss5)
    (hx : Ext W W2) (hs : Row W2 g2 27 [.int .i64 x.2.1, .int .i64 x.2.2]) (hg2 : W.heap.size ≤ g2)
    (hown : Has W3 w0.heap.size 54 2 ve (ps.length + 1) (zipC ps ss5 ++ [.int .i64 (if (x.1 : Int) = (r.length : Int) - 1 then 0 else 1), .slice (some ⟨g2, 0, none⟩) 1 1])) (hg : W2.grownBy W3 (.slice A5 ps.length cap5 : Value).ownBlock) (hBo : w0.heap.size ≤ Bo) :
    Row W3 Bo 24 [.slice A5 ps.length cap5] ∧ RevI w0 Bo Br Bs VG S ss2 VR r Ds qs (pre ++ [x]) (W3.setCell ⟨Bo, 0, none⟩ ve) ∧ KeepsFrom w0.heap.size W (W3.setCell ⟨Bo, 0, none⟩ ve) := by
  subst hps
  have hz := h.below.size
  obtain ⟨r3, ⟨A6, cap6, hve, r4, o4⟩, K, B4, hG, hR⟩ := boxed_push (x := (if (x.1 : Int) = (r.length : Int) - 1 then 0 else 1, [x.2])) h1 h2 hx (own_of_row (n := 1) hs (by omega) rfl (by decide)) (fun g hg => by simp [Value.ownBlock] at hg; omega) h.below hown hg hBo
  have e : qs ++ gL r (pre ++ [x]) = (qs ++ gL r pre) ++ [(if (x.1 : Int) = (r.length : Int) - 1 then 0 else 1, [x.2])] := by simp [gL]
  refine ⟨r3, ⟨⟨A6, cap6, ss5 ++ [.slice (some ⟨g2, 0, none⟩) 1 1], ?_, ?_⟩, hG _ _ _ h.rings, hR _ _ h.ring, hR _ _ h.box, B4, h.marks.keeps K⟩, K⟩
  · rw [e]; exact r4
  · rw [e]; exact o4
end
theorem bodyPostM_marks {F : Fence} {n B : Nat} {P : Program} {fn : Func} {R : Ending → World → Prop} {a : Act} {w : World} {v : Value} {Ds : List Nat} (hm : Marks w B Ds) (h : (results fn a.tmps).run P (shutAll w Ds) = .ok v (shutAll w Ds)) (hd : a.defers = mks Ds) (hR : R (.returned v) (shutAll w Ds)) : bodyPostM F n P fn R .ret a w := by
  obtain ⟨t, d⟩ := a
  dsimp only at hd
  subst hd
  exact leaves_marks Ds w hm ⟨v, h, hR⟩
set_option maxRecDepth 100000 in
set_option maxHeartbeats 4000000 in
theorem c_iReversePath (A : Option Addr) (cap : Nat) (vs : List Vb) (w : World) (h : VbK w A vs) (hl : vs.length ≤ 1000000000) (hs : ∀ v ∈ vs, v.2.length ≤ 1000000000) :
    Calls Try.prog 21 #[.slice A vs.length cap] w (RetRvV w (revP vs)) := by
  obtain ⟨R, hR⟩ : ∃ R, revP vs = R := ⟨_, rfl⟩
  rw [hR]
  obtain ⟨d1, hd1⟩ : ∃ d, pathOk vs = d := ⟨_, rfl⟩
  have HR : Hid (R = if d1 = true ∧ pathOk (revV (ringsL vs)) = true then (revV (ringsL vs), true) else ([], false)) := Lib.hid (by rw [← hR]; unfold revP; rw [hd1])
  have H := Lib.hid h
  have KV := Lib.hid (fun W hW => c_iValidPath A cap vs W hW hl hs)
  have H1 := Lib.hid hd1
  have E := Lib.hid (Below.refl w.heap.size w)
  clear h hR hd1 hl hs
  refine callsIn_wide.1 (callsIn_of_wp_marks (n := 4) Try.func21 rfl trivial (wpIn_wide.2 ?_) rfl)
  simp only [Try.ntmps21, List.size_toArray, List.length_cons, List.length_nil, Nat.reduceAdd, Nat.reduceSub, Array.replicate_succ, Array.replicate_zero, List.push_toArray, List.append_toArray, List.nil_append, List.cons_append]
  go_wp2_with fail
  refine (KV.out _ H.out.toV).mono ?_
  rw [H1.out]
  rintro e w1 ⟨rfl, hb⟩
  replace E := Lib.hid (Ext.trans E.out hb)
  replace H := Lib.hid (H.out.ext verbK_stab hb)
  clear hb
  cases d1
  · have Hf : Hid (R = ([], false)) := Lib.hid (by rw [HR.out]; simp)
    go_wp2
    refine bodyPostM_ret (v := .tuple #[.slice none 0 0, .bool false]) (by simp [results, Try.results21, go_sem]) rfl ?_
    rw [Hf.out]; exact retRvV_nil E.out
  · have hn30 := (pathOk_to H1.out).2
    obtain ⟨ok1, ok2, ok3⟩ := ringsL_ok H1.out
    obtain ⟨S, hS⟩ : ∃ S, ringsL vs = S := ⟨_, rfl⟩
    have HS := Lib.hid hS
    rw [hS] at ok1 ok2 ok3 HR
    have Hk1 := Lib.hid ok1
    clear hS ok1
    have hz1 : w.heap.size ≤ w1.heap.size := E.out.size
    go_wp2_with fail
    first | refine gen_calls ?_ | refine gen_code ?_ | refine gen_list ?_
    intro w2 hW
    obtain ⟨hb, hR0⟩ := new1 hW
    clear hW
    replace E := Lib.hid (Ext.trans E.out hb)
    replace H := Lib.hid (H.out.ext verbK_stab hb)
    clear hb
    have R0 := Lib.hid hR0
    have lR0 := R0.out.lt
    clear hR0
    have hz2 : w.heap.size ≤ w2.heap.size := E.out.size
    go_wp2_with fail
    refine (c_irings A cap vs w2 H.out H1.out).mono ?_
    rw [HS.out]
    rintro e w3 ⟨A2, cap2, ss2, rfl, ho, hb⟩
    replace E := Lib.hid (Ext.trans E.out hb)
    replace H := Lib.hid (H.out.ext verbK_stab hb)
    replace R0 := Lib.hid (R0.out.ext hb)
    have lR0 := R0.out.lt
    clear hb
    have G := Lib.hid (ho)
    clear ho
    replace G := Lib.hid (G.out.rebase (B' := w.heap.size) hz2)
    obtain ⟨bo, hbo⟩ : ∃ b, w1.heap.size = b := ⟨_, rfl⟩
    rw [hbo] at R0 hz1 ⊢
    clear hbo hz2
    go_wp2_with fail
    refine wp_loop (fun a' wr => ∃ (k : Nat) (A4 : Option Addr) (cap4 : Nat) (qs : List Vb) (ss : List Value) (Ds : List Nat) (u6 u17 u18 u19 u20 u21 u36 u37 u38 u39 u40 : Value), k ≤ S.length ∧ qs = revV (S.take k) ∧ Row wr bo 24 [.slice A4 qs.length cap4] ∧ OVb wr w.heap.size 27 54 (.slice A4 qs.length cap4) qs ss ∧ OR wr w.heap.size (.slice A2 S.length cap2) S ss2 ∧ Below w.heap.size w wr ∧ Marks wr w.heap.size Ds ∧
      a' = { tmps := (.slice A vs.length cap :: undef :: .slice none 0 0 :: .bool false :: .pointer (some ⟨bo, 0, none⟩) :: undef :: u6 :: undef :: undef :: undef :: .slice A vs.length cap :: .bool true :: .bool false :: .slice A vs.length cap :: .slice A2 S.length cap2 :: .int .i64 S.length :: .int .i64 k :: u17 :: u18 :: u19 :: u20 :: u21 :: undef :: undef :: undef :: undef :: undef :: undef :: undef :: undef :: undef :: undef :: undef :: undef :: undef :: undef :: u36 :: u37 :: u38 :: u39 :: u40 :: undef :: undef :: undef :: undef :: undef :: []).toArray, defers := mks Ds }) (fun a' _ => S.length - (intOf (a'.tmps.getD 16 undef)).toNat) ?start ?round
    case start => exact ⟨0, none, 0, [], [], [], undef, undef, undef, undef, undef, undef, undef, undef, undef, undef, undef, Nat.zero_le _, rfl, R0.out, OVb.nil _ _ _ _, G.out, E.out, Marks.nil _ _, rfl⟩
    case round =>
      rintro a wr ⟨k, A4, cap4, qs, ss, Ds, u6, u17, u18, u19, u20, u21, u36, u37, u38, u39, u40, hk, hqs, hb4, ho4, hg4, hbw, hmk, rfl⟩
      have Hqs := Lib.hid hqs
      have O := Lib.hid ho4
      have X := Lib.hid hbw
      have Gr := Lib.hid hg4
      have Rb := Lib.hid hb4
      have Mk := Lib.hid hmk
      have hzr : w.heap.size ≤ wr.heap.size := hbw.size
      clear hqs ho4 hg4 hbw hb4 hmk
      have hcor : corners (S.take k) ≤ 240 := by
        have h1 : corners S = corners (S.take k) + corners (S.drop k) := by rw [← corners_append, List.take_append_drop]
        omega
      have hql : qs.length ≤ 271 := by rw [Hqs.out, revV_len, List.length_take]; omega
      by_cases hlt : k < S.length
      · have hr0 := (Hk1.out S[k] (List.getElem_mem hlt)).2
        have hr240 : (S[k]).length ≤ 240 := by
          have h1 := corners_take hlt
          have h2 : corners S = corners (S.take (k + 1)) + corners (S.drop (k + 1)) := by rw [← corners_append, List.take_append_drop]
          omega
        have Hn : Hid (revV (S.take (k + 1)) = revV (S.take k) ++ polyV (S[k].reverse.take S[k].length) ++ [(4, [])]) := Lib.hid (revV_take hlt)
        have hsl : k < ss2.length := by have := Gr.out.len; omega
        obtain ⟨Ar, capr, hss⟩ := own_form (Gr.out.inn k hlt)
        obtain ⟨g, hA2, _, _⟩ := own_at Gr.out.out (by omega)
        subst hA2
        have cr : wr.cell? ⟨g, k, none⟩ = some (.slice Ar S[k].length capr) := by
          rw [Gr.out.out.cellAt k (by omega), List.getElem?_eq_getElem hsl, hss]
        have hkI2 : (k : Int) < (S.length : Int) := by omega
        obtain ⟨r, hr⟩ : ∃ r, S[k] = r := ⟨_, rfl⟩
        have Hr := Lib.hid hr
        have Hss : Hid (ss2[k] = .slice Ar r.length capr) := Lib.hid (by rw [hss, hr])
        rw [hr] at cr hr0 hr240 Hn
        have Q : Hid (0 < r.length) := Lib.hid hr0
        clear hss hr hr0
        go_wp2_with fail
        clear cr
        go_wp2_with fail
        first | refine gen_calls ?_ | refine gen_code ?_ | refine gen_list ?_
        intro wq hW
        obtain ⟨hb, hR1⟩ := new1 hW
        clear hW
        replace X := Lib.hid (Ext.trans X.out hb)
        replace O := Lib.hid (O.out.ext hb)
        replace Rb := Lib.hid (Rb.out.ext hb)
        have lRb := Rb.out.lt
        replace Gr := Lib.hid (Gr.out.ext hb)
        replace Mk := Lib.hid (Mk.out.ext hb)
        clear hb
        have R1 := Lib.hid hR1
        have lR1 := R1.out.lt
        clear hR1
        refine (c_Backward _ _ _ _).mono ?_
        rintro e w5 ⟨rfl, rfl⟩
        obtain ⟨br, hbr⟩ : ∃ b, wr.heap.size = b := ⟨_, rfl⟩
        rw [hbr] at R1 ⊢
        have hqz : w.heap.size ≤ wq.heap.size := X.out.size
        go_wp2_with fail
        refine gen_code (fun W5 hW5 => ?_)
        obtain ⟨E5, hR2⟩ := new1 (c1 := [_]) hW5
        have I0 : RevI w bo br wq.heap.size (.slice (some ⟨g, 0, none⟩) S.length cap2) S ss2 (.slice Ar r.length capr) r Ds qs [] W5 := by
          have e : qs ++ gL r [] = qs := by simp [gL]
          exact ⟨⟨A4, cap4, ss, by rw [e]; exact Rb.out.ext E5, by rw [e]; exact O.out.ext E5⟩, Gr.out.ext E5, R1.out.ext E5, hR2, Ext.trans X.out E5, Mk.out.ext E5⟩
        have hlD : ∀ D ∈ Ds, D < W5.heap.size := fun D hD => by have := Mk.out.lt D hD; have := E5.size; omega
        have hzb : w.heap.size ≤ W5.heap.size := by have := E5.size; omega
        have II := Lib.hid I0
        have MK := Lib.hid Mk.out
        have E5h := Lib.hid E5
        clear hW5 hR2 I0 E5
        refine (wpIn_wide (n := 4)).1 (wpIn_rangeFunc_ownH (F := Fence.wide) (n := 4) rfl (by omega) (gf := 57) (lb := #[.pointer (some ⟨wq.heap.size, 0, none⟩)]) rfl trivial (enters_of Try.func57 (by kernel_rfl) rfl)
          (back_stops 3 (by omega) wq.heap.size capr Ar r (by omega) W5 (II.out.bk hlt Hr.out Hss.out)) (fun h k x => k (h x))
          (fun W l o o' _ ho hc _ hB => Bk.put hB ho hc) (Below.refl _ _) (fun _ => rfl)
          (fun pre W => RevI w bo br wq.heap.size (.slice (some ⟨g, 0, none⟩) S.length cap2) S ss2 (.slice Ar r.length capr) r Ds qs pre W) (fun _ _ _ => False) (RevI.own hzb hlD) (fun _ _ _ _ _ h _ _ => h) II.out
          (fun x a' W => ∃ Bx, Row W Bx 27 [.int .i64 x.2.1, .int .i64 x.2.2] ∧ a' = { tmps := (.slice A vs.length cap :: undef :: .slice none 0 0 :: .bool false :: .pointer (some ⟨bo, 0, none⟩) :: undef :: .pointer (some ⟨br, 0, none⟩) :: .int .i64 (x.1 : Int) :: .pointer (some ⟨Bx, 0, none⟩) :: undef :: .slice A vs.length cap :: .bool true :: .bool false :: .slice A vs.length cap :: .slice (some ⟨g, 0, none⟩) S.length cap2 :: .int .i64 S.length :: .int .i64 k :: .bool true :: .pointer (some ⟨g, k, none⟩) :: .slice Ar r.length capr :: .slice Ar r.length capr :: .func (.func 57) #[] #[.pointer (some ⟨wq.heap.size, 0, none⟩)] :: .int .i64 (x.1 : Int) :: .agg #[.int .i64 x.2.1, .int .i64 x.2.2] :: undef :: undef :: undef :: undef :: undef :: undef :: undef :: undef :: undef :: undef :: undef :: undef :: u36 :: u37 :: u38 :: u39 :: u40 :: undef :: undef :: undef :: undef :: undef :: []).toArray, defers := [] }) (fun x a' s W W' row h hg hr => by obtain ⟨Bx, h1, h2⟩ := h; exact ⟨Bx, h1.keptO hg (noCells_from hr), h2⟩) ?assign ?body ?done ?stop)
        case stop => intro D c pre W _ _ h _; exact h.elim
        case assign =>
          intro l pre x W K hi hK
          have hI := Lib.hid hi
          clear hi
          gi_wp2
          have e1 := ext_alloc W (.cells #[.int .i64 x.2.1, .int .i64 x.2.2] 27)
          exact hK _ _ (keepsFrom_ext e1) (fun h => ⟨Cls.cell e1 h.1, h.2.ext ptR_stab e1⟩) (hI.out.ext e1) ⟨W.heap.size, Row.new W 27 [.int .i64 x.2.1, .int .i64 x.2.2], rfl⟩
        case body =>
          rintro l pre x a' W _ _ hi ⟨Bx, hBx, rfl⟩ hlen
          obtain ⟨A5, cap5, ss5, hb5, ho5⟩ := hi.out
          have cb := hb5.cell_of (i := 0) rfl
          have fb := hb5.frozen 0
          have cr := hi.ring.cell_of (i := 0) rfl
          have cx0 := hBx.cell_of (i := 0) rfl
          have cx1 := hBx.cell_of (i := 1) rfl
          have HI := Lib.hid hi
          have hpl : (qs ++ gL r pre).length ≤ 600 := by rw [List.length_append, gL_len]; omega
          obtain ⟨ps, hps⟩ : ∃ ps, qs ++ gL r pre = ps := ⟨_, rfl⟩
          rw [hps] at hb5 ho5 hpl cb
          have O5 := Lib.hid ho5
          have RB5 := Lib.hid hb5
          have Hps := Lib.hid hps
          have hzW : w.heap.size ≤ W.heap.size := hi.below.size
          have g1 : IntKind.i64.wrap ((r.length : Int) - 1) = (r.length : Int) - 1 := IntWalk.i64_in _ (by omega)
          obtain ⟨kd, Hkd, hb0⟩ : ∃ kd : Int, Hid (kd = if (x.1 : Int) = (r.length : Int) - 1 then 0 else 1) ∧ (((x.1 : Int) == (r.length : Int) - 1) = true ∧ kd = 0 ∨ ((x.1 : Int) == (r.length : Int) - 1) = false ∧ kd = 1) := by
            refine ⟨_, Lib.hid rfl, ?_⟩
            by_cases h0 : (x.1 : Int) = (r.length : Int) - 1
            · left; simp [h0]
            · right; simp [h0]
          clear hi hb5 ho5 hBx hlen hps
          rcases hb0 with ⟨hb0, hk0⟩ | ⟨hb0, hk0⟩
          all_goals
            subst hk0
            gi_wp2_with (gi_at_builtin; refine stop_in ?_)
            refine stop_out ?_
            refine gen_listIn (fun W2 hW => ?_)
            obtain ⟨E6, r1, r2⟩ := new2 (c1 := [_, _]) (c2 := [_, _]) hW
            clear hW
            have hz6 := E6.size
            refine wpListIn_app (n := ps.length) (m := 1) (base := w.heap.size) ei_vb rfl (.tmp 29) (.tmp 34) rfl rfl (own_ext O5.out.out E6) rfl ((own_of_row (B := 0) (sz := 2) (n := 1) r2 (by omega) rfl (by decide)).src (by intro u hu; simp only [List.mem_cons, List.not_mem_nil, or_false] at hu; rcases hu with rfl | rfl <;> rfl)) (by omega) (by omega) ?_
            intro ve W3 hown hg hat
            obtain ⟨r3, I3, K3⟩ := HI.out.push Hps.out RB5.out O5.out E6 r1 (Nat.le_refl _) (by rw [← Hkd.out]; exact hown) hg hz1
            have cb3 := r3.cell_of (i := 0) rfl
            have fb3 := r3.frozen 0
            have II3 := Lib.hid I3
            have KK3 := Lib.hid (keepsFrom_up K3 hzb)
            obtain ⟨A6, cap6, hve⟩ := own_form hown
            subst hve
            clear cb fb cr cx0 cx1 hown hg hat E6 r1 r2 r3 I3 K3 hz6
            gi_wp2
            exact ⟨KK3.out, fun _ => II3.out.bk hlt Hr.out Hss.out, II3.out⟩
        case done =>
          rintro D ys W hD rfl hi hK
          have hM : Marks W w.heap.size (D :: Ds) := MK.out.cons hi.marks (by have := E5h.out.size; omega) (by omega) hK
          obtain ⟨A5, cap5, ss5, hb5, ho5⟩ := hi.out
          have hpl : (qs ++ gL r (dnL r r.length)).length ≤ 600 := by rw [List.length_append, gL_len, dnL_len]; omega
          have hps : qs ++ gL r (dnL r r.length) = qs ++ polyV (r.reverse.take r.length) := by rw [gL_all, List.take_of_length_le (by simp)]
          obtain ⟨ps, hpz⟩ : ∃ ps, qs ++ gL r (dnL r r.length) = ps := ⟨_, rfl⟩
          rw [hpz] at hb5 ho5 hpl hps
          have cb := hb5.cell_of (i := 0) rfl
          have fb := hb5.frozen 0
          have HM := Lib.hid hM
          have O5 := Lib.hid ho5
          have RB5 := Lib.hid hb5
          have HP := Lib.hid hps
          have G5 := Lib.hid hi.rings
          have X5 := Lib.hid hi.below
          have hzW : w.heap.size ≤ W.heap.size := hi.below.size
          clear hi hb5 ho5 hM hps hpz hK hD
          go_wp2_with (at_builtin; refine stop_in ?_)
          refine stop_out ?_
          refine gen_list (fun W2 hW => ?_)
          obtain ⟨E6, r1⟩ := new1 (c1 := [_, _]) hW
          clear hW
          have hz6 := E6.size
          refine wpList_app (base := w.heap.size) ei_vb rfl (.tmp 36) (.tmp 38) rfl rfl (own_ext O5.out.out E6) rfl ((own_of_row (B := 0) (sz := 2) (n := 1) r1 (by omega) rfl (by decide)).src (by intro u hu; simp only [List.mem_cons, List.not_mem_nil, or_false] at hu; rcases hu with rfl | rfl <;> rfl)) (by omega) (by omega) ?_
          intro ve W3 hown hg hat
          obtain ⟨r3, ⟨A6, cap6, hve, r4, o4⟩, K3, B4, hG, hR⟩ := boxed_push (x := (4, [])) (s := .slice none 0 0) RB5.out O5.out E6 (own_nil _ _ _ _) (fun g hg => by cases hg) X5.out hown hg hz1
          have cb3 := r3.cell_of (i := 0) rfl
          have fb3 := r3.frozen 0
          have R4 := Lib.hid r4
          have O4 := Lib.hid o4
          have G4 := Lib.hid (hG _ _ _ G5.out)
          have M4 := Lib.hid (HM.out.keeps K3)
          have X4 := Lib.hid B4
          rw [← sl_len] at hve
          subst hve
          clear cb fb hown hg hat E6 r1 r3 r4 o4 K3 B4 hG hR hz6
          go_wp2
          refine ⟨⟨k + 1, A6, cap6, ps ++ [(4, [])], ss5 ++ [.slice none 0 0], D :: Ds, _, _, _, _, _, _, _, _, _, _, _, by omega, by rw [Hn.out, ← Hqs.out, ← HP.out], R4.out, O4.out, G4.out, X4.out, M4.out, rfl⟩, ?_⟩
          simp [intOf]
          omega
      · have hkk : k = S.length := by omega
        have hkI : decide ((k : Int) < (S.length : Int)) = false := by simp; omega
        have hq : qs = revV S := by rw [Hqs.out, hkk, List.take_length]
        have Hq := Lib.hid hq
        obtain ⟨d2, hd2⟩ : ∃ d, pathOk qs = d := ⟨_, rfl⟩
        have P : Hid (Vbs wr A4 qs) := Lib.hid O.out.in_
        have KV2 := Lib.hid (fun W hW => c_iValidPath A4 cap4 qs W hW (by omega) (fun v hv => by rw [hq] at hv; have := revV_small S v hv; omega))
        have H2 := Lib.hid hd2
        clear hkk hq hd2
        have cb0 := Rb.out.cell_of (i := 0) rfl
        go_wp2_with fail
        clear cb0
        refine (KV2.out _ P.out).mono ?_
        rw [H2.out]
        rintro e w5 ⟨rfl, hb⟩
        replace X := Lib.hid (Ext.trans X.out hb)
        replace P := Lib.hid (P.out.ext verbR_stab hb)
        replace O := Lib.hid (O.out.ext hb)
        replace Rb := Lib.hid (Rb.out.ext hb)
        have lRb := Rb.out.lt
        replace Mk := Lib.hid (Mk.out.ext hb)
        clear hb
        have cb0 := Rb.out.cell_of (i := 0) rfl
        cases d2
        · have Hf : Hid (R = ([], false)) := Lib.hid (by rw [HR.out, ← Hq.out, H2.out]; simp)
          go_wp2
          refine bodyPostM_marks Mk.out (v := .tuple #[.slice none 0 0, .bool false]) (by simp [results, Try.results21, go_sem]) rfl ?_
          rw [Hf.out]; exact retRvV_nil (Below.trans X.out (shut_below Ds _ Mk.out))
        · have Hf : Hid (R = (qs, true)) := Lib.hid (by rw [HR.out, ← Hq.out, H2.out]; simp)
          have KC := Lib.hid (fun W => c_Clip_ei_vb A4 qs.length cap4 W O.out.out.slok)
          go_wp2_with fail
          refine (KC.out _).mono ?_
          rintro e w' ⟨rfl, rfl⟩
          go_wp2
          have O2 := shut_kept (p := fun W => OVb W w.heap.size 27 54 (.slice A4 qs.length qs.length) qs ss) (fun _ _ _ h hg hr => h.keptO hg hr) Ds _ Mk.out ⟨O.out.len, O.out.out.clip, O.out.inn, O.out.nd⟩
          refine bodyPostM_marks Mk.out (v := .tuple #[.slice A4 qs.length qs.length, .bool true]) (by simp [results, Try.results21, go_sem]) rfl ?_
          rw [Hf.out]
          exact ⟨A4, qs.length, ss, rfl, O2, Below.trans X.out (shut_below Ds _ Mk.out)⟩
end Go.Proofs.Ytkjbkbincmcioaa
