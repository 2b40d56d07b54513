/-
  The parts of a row that are inside: the program's walk; SpansOf, both.
-/
import Derived.Test.YteknlifgejpjfaaCrsI
import Derived.Test.YteknlifgejpjfaaSpnS
import Derived.Test.YteknlifgejpjfaaSlice
namespace Go.Proofs.Yteknlifgejpjfaa
open Go Go.RowKit Reg
attribute [local go_sem] calmAt calmUpon
theorem addR_yes {out : List Pt} {t j : Nat} (hl : out.length = j + 1) (h : (out[j]'(by omega)).2 = (t : Int)) : addR out t = out.set j ((out[j]'(by omega)).1, (t : Int) + 1) := by
  rcases List.eq_nil_or_concat out with rfl | ⟨p, x, rfl⟩
  · simp at hl
  · simp only [List.concat_eq_append] at hl h ⊢
    have hp : p.length = j := by simpa using hl
    subst hp
    have h2 : x.2 = (t : Int) := by simpa using h
    unfold addR
    rw [List.getLast?_concat, List.dropLast_concat]
    simp [h2]
theorem addR_none (t : Nat) : addR [] t = [] ++ [((t : Int), (t : Int) + 1)] := rfl
theorem addR_no {out : List Pt} {t j : Nat} (hl : out.length = j + 1) (h : ¬ (out[j]'(by omega)).2 = (t : Int)) : addR out t = out ++ [((t : Int), (t : Int) + 1)] := by
  rcases List.eq_nil_or_concat out with rfl | ⟨p, x, rfl⟩
  · simp at hl
  · simp only [List.concat_eq_append] at hl h ⊢
    have hp : p.length = j := by simpa using hl
    subst hp
    have h2 : ¬ x.2 = (t : Int) := by simpa using h
    unfold addR
    rw [List.getLast?_concat]
    simp [h2]
theorem addR_len (out : List Pt) (t : Nat) : (addR out t).length ≤ out.length + 1 := by
  unfold addR
  cases h : out.getLast? with
  | none => simp
  | some l =>
    dsimp only
    split
    · simp only [List.length_append, List.length_dropLast, List.length_singleton]; omega
    · simp
theorem runsI_len (cs : List Pt) (rule : Int) : ∀ t, (runsI cs rule t).length ≤ t
  | 0 => Nat.le_refl _
  | t + 1 => by
    have h := runsI_len cs rule t
    have h2 := addR_len (runsI cs rule t) t
    rw [runsI]
    split <;> omega
theorem stpK_bd {cs : List Pt} (h : CrsOk cs) : ∀ i, i ≤ cs.length → -(i : Int) ≤ stpK cs i ∧ stpK cs i ≤ i
  | 0, _ => by simp [stpK, sumI]
  | i + 1, hi => by
    have h1 := stpK_bd h i (by omega)
    have h2 := h cs[i] (List.getElem_mem (by omega))
    rw [stpK_succ (show i < cs.length by omega)]
    omega
theorem drop_step {cs rest : List Pt} {i : Nat} (h : rest = cs.drop i) (hn : 0 < rest.length) : ∃ hi : i < cs.length, rest[0] = cs[i] ∧ rest.drop 1 = cs.drop (i + 1) := by
  subst h
  have hi : i < cs.length := by rw [List.length_drop] at hn; omega
  refine ⟨hi, by simp, by rw [List.drop_drop]⟩
theorem crs_ok (es : List Ed) (y : Int) : CrsOk (srtC (crsL es y)) := fun _ hc => crsL_bd ((srtC_perm _).mem_iff.1 hc)
/-- The parts of a row of polygons. -/
def spanR (rs : List Rg) (rule row : Int) : List Pt := if rgsB rs && inB rule 0 1 && inB row 0 47 then runsE (srtC (crsL (edgesS rs) (4 * row + 2))) rule else []
theorem crs_len {rs : List Rg} (h : rgsB rs = true) (y : Int) : (srtC (crsL (edgesS rs) y)).length ≤ 200 := by
  rw [srtC_len]
  refine Nat.le_trans (crsL_len _ _) ?_
  rw [edgesS_len]
  exact (rgsB_iff.1 h).2.2
theorem spanR_len (rs : List Rg) (rule row : Int) : (spanR rs rule row).length ≤ 300 := by
  unfold spanR
  split
  · rename_i h
    simp only [Bool.and_eq_true] at h
    rw [runs_eq (srtC_srt _) (fun c hc => (crs_ok _ _ c hc).1)]
    have := runsI_len (srtC (crsL (edgesS rs) (4 * row + 2))) rule 48
    omega
  · simp
def spN : Value → Nat
  | .slice _ n _ => n
  | _ => 0
set_option maxRecDepth 100000 in
set_option maxHeartbeats 16000000 in
theorem c_iSpansOf (A : Option Addr) (cap : Nat) (rs : List Rg) (rule row : Int) (w : World) (h : Rgs w A rs) (hl : rs.length ≤ 1000000000) (hs : ∀ r ∈ rs, r.length ≤ 1000000000) :
    Calls Try.prog 15 #[.slice A rs.length cap, .int .i64 rule, .int .i64 row] w fun e w' => RetP 53 w (spanR rs rule row) e w' := by
  have K0 := Lib.hid (fun W (hW : Rgs W A rs) => c_iValidRings A cap rs W hW hl hs)
  have H := Lib.hid h
  clear h hs
  obtain ⟨S, hS⟩ : ∃ S, spanR rs rule row = S := ⟨_, rfl⟩
  rw [hS]
  obtain ⟨d1, hd1⟩ : ∃ d, rgsB rs = d := ⟨_, rfl⟩
  obtain ⟨d2, hd2⟩ : ∃ d, inB rule 0 1 = d := ⟨_, rfl⟩
  obtain ⟨d3, hd3⟩ : ∃ d, inB row 0 47 = d := ⟨_, rfl⟩
  have HS : Hid (S = if (d1 && d2 && d3) = true then runsE (srtC (crsL (edgesS rs) (4 * row + 2))) rule else []) := Lib.hid (by rw [← hS]; unfold spanR; rw [hd1, hd2, hd3])
  have Hno : Hid (∀ b, (d1 && d2 && d3) = b → b = false → S = []) := Lib.hid (fun b h1 h2 => by rw [HS.out, h1, h2]; rfl)
  have H1 := Lib.hid hd1
  have H2 := Lib.hid hd2
  have H3 := Lib.hid hd3
  have E := Lib.hid (Below.refl w.heap.size w)
  clear hS hd1 hd2 hd3
  go_enter Try.func15, Try.ntmps15
  go_wp2_with fail
  refine (K0.out _ H.out).mono ?_
  rw [H1.out]
  rintro e w1 ⟨rfl, hb⟩
  replace E := Lib.hid (Ext.trans E.out hb)
  replace H := Lib.hid (H.out.ext rgR_stab hb)
  clear hb
  cases d1
  · have Hf := Lib.hid (Hno.out _ rfl (by simp))
    go_wp2
    go_ret
    exact RetP.none Hf.out E.out
  · go_wp2_with fail
    refine (c_isRule rule _).mono ?_
    rw [H2.out]
    rintro e w' ⟨rfl, rfl⟩
    cases d2
    · have Hf := Lib.hid (Hno.out _ rfl (by simp))
      go_wp2
      go_ret
      exact RetP.none Hf.out E.out
    · go_wp2_with fail
      refine (c_isRow row _).mono ?_
      rw [H3.out]
      rintro e w' ⟨rfl, rfl⟩
      cases d3
      · have Hf := Lib.hid (Hno.out _ rfl (by simp))
        go_wp2
        go_ret
        exact RetP.none Hf.out E.out
      · have hb := inB_iff.1 H3.out
        obtain ⟨hb1, hb2⟩ := hb
        have hru := inB_iff.1 H2.out
        obtain ⟨hru1, hru2⟩ := hru
        have hcl := crs_len H1.out (4 * row + 2)
        have Hok := Lib.hid (crs_ok (edgesS rs) (4 * row + 2))
        have Hsr := Lib.hid (srtC_srt (crsL (edgesS rs) (4 * row + 2)))
        have Hf : Hid (runsI (srtC (crsL (edgesS rs) (4 * row + 2))) rule 48 = S) := Lib.hid (by rw [HS.out, ← runs_eq Hsr.out (fun c hc => (Hok.out c hc).1)]; rfl)
        have hz2 := E.out.size
        clear HS Hno
        go_wp2_with fail
        refine (c_icrosses A cap rs row _ H.out H1.out ⟨by omega, by omega⟩).mono ?_
        generalize srtC (crsL (edgesS rs) (4 * row + 2)) = cs at *
        rintro e w3 ⟨A2, cap2, rfl, ho, hb⟩
        have hsl := ho.slok
        obtain ⟨_, hsl1, hsl2⟩ := hsl
        unfold maxLen at hsl2
        have P := Lib.hid (own_in (R := ptR) (enc := ptC) ptC_len (by decide) ho (fun _ => rfl))
        replace E := Lib.hid (Ext.trans E.out hb)
        have hz3 : w.heap.size ≤ w3.heap.size := E.out.size
        clear ho hb H K0
        have X := Lib.hid (Below.refl w3.heap.size w3)
        go_wp2_with fail
        go_loopw [7, 8, 9, 10, 11, 28] (fun o al n _ _ iv wr => ∃ (t i : Nat) (A1 : Option Addr) (cap1 : Nat) (fs : List Pt) (nn : Int) (A2 : Option Addr) (cap2 : Nat) (rest : List Pt), t ≤ 48 ∧ i ≤ cs.length ∧ iv = .int .i64 t ∧ n = .int .i64 nn ∧ o = .slice A1 fs.length cap1 ∧ al = .slice A2 rest.length cap2 ∧ fs = runsI cs rule t ∧ nn = stpK cs i ∧ rest = cs.drop i ∧ (∀ (j : Nat) (hj : j < cs.length), j < i → cs[j].1 < (t : Int)) ∧ rest.length ≤ cap2 ∧ cap2 ≤ 9223372036854775807 ∧ Pts w3 A2 rest ∧ Has wr w3.heap.size 53 2 (.slice A1 fs.length cap1) fs.length (fs.flatMap ptC) ∧ Below w3.heap.size w3 wr) (fun _ _ _ _ _ iv _ => 48 - (intOf iv).toNat)
        case atStart => exact ⟨0, 0, none, 0, [], 0, A2, cap2, cs, by omega, Nat.zero_le _, rfl, rfl, rfl, rfl, rfl, rfl, rfl, (fun j hj k => absurd k (by omega)), hsl1, hsl2, P.out, own_nil _ _ _ _, X.out⟩
        case round =>
          obtain ⟨t, i, A1, cap1, fs, nn, A2, cap2, rest, ht, hi, rfl, rfl, rfl, rfl, hfs, hnn, hrest, hbf, hc1, hc2, hp, ho, hbw⟩ := hrel
          clear X P
          have O := Lib.hid ho
          have X := Lib.hid hbw
          have P := Lib.hid hp
          have Hnn := Lib.hid hnn
          have Hrest := Lib.hid hrest
          have Hbf0 := Lib.hid hbf
          have hzr : w3.heap.size ≤ wr.heap.size := hbw.size
          have hfl : fs.length ≤ t := by rw [hfs]; exact runsI_len cs rule t
          have Hfs := Lib.hid hfs
          clear ho hbw hp hnn hrest hbf hfs
          by_cases hlt : t < 48
          · have v1 : (t : Int) < 48 := by omega
            have v1d : decide ((t : Int) < 48) = true := decide_eq_true v1
            go_wp2_with fail
            go_loopw [8, 9] (fun al n wr => ∃ (i1 : Nat) (A3 : Option Addr) (cap3 : Nat) (rest1 : List Pt) (nn1 : Int), i1 ≤ cs.length ∧ n = .int .i64 nn1 ∧ al = .slice A3 rest1.length cap3 ∧ nn1 = stpK cs i1 ∧ rest1 = cs.drop i1 ∧ (∀ (j : Nat) (hj : j < cs.length), j < i1 → cs[j].1 ≤ (t : Int)) ∧ rest1.length ≤ cap3 ∧ cap3 ≤ 9223372036854775807 ∧ Pts w3 A3 rest1 ∧ Has wr w3.heap.size 53 2 (.slice A1 fs.length cap1) fs.length (fs.flatMap ptC) ∧ Below w3.heap.size w3 wr) (fun al _ _ => spN al)
            case atStart => exact ⟨i, A2, cap2, rest, nn, hi, rfl, rfl, Hnn.out, Hrest.out, (fun j hj k => Int.le_of_lt (Hbf0.out j hj k)), hc1, hc2, P.out, O.out, X.out⟩
            case round =>
              clear hc1 hc2 Hnn Hrest Hbf0 P O X hi
              obtain ⟨i1, A3, cap3, rest1, nn1, hi1, rfl, rfl, hnn, hrest, hbf, hc1, hc2, hp, ho, hbw⟩ := hrel
              have O := Lib.hid ho
              have X := Lib.hid hbw
              have P1 := Lib.hid hp
              have Hnn1 := Lib.hid hnn
              have Hrest1 := Lib.hid hrest
              have Hbf := Lib.hid hbf
              have hzr1 : w3.heap.size ≤ wr.heap.size := hbw.size
              clear ho hbw hp hnn hrest hbf hzr
              by_cases hn : 0 < rest1.length
              · obtain ⟨hi2, hr0, hr1⟩ := drop_step Hrest1.out hn
                obtain ⟨b, off, rfl, _, hc⟩ := (P1.out.ext ptR_stab X.out).pts hn
                obtain ⟨cx, cy⟩ := hc 0 hn
                rw [hr0] at cx cy
                simp only [Nat.zero_mul, Nat.add_zero] at cx cy
                have n1 : (0 : Int) < (rest1.length : Int) := by omega
                have n1d : decide ((0 : Int) < (rest1.length : Int)) = true := decide_eq_true n1
                have n2d : decide (0 < rest1.length) = true := decide_eq_true hn
                have Hs1 : Hid (stpK cs (i1 + 1) = nn1 + cs[i1].2) := Lib.hid (by rw [stpK_succ hi2, Hnn1.out])
                have Hle : Hid (cs[i1].1 ≤ (t : Int) → ∀ (j : Nat) (hj : j < cs.length), j < i1 + 1 → cs[j].1 ≤ (t : Int)) := Lib.hid (fun h j hj k => by
                  by_cases e : j = i1
                  · subst e; exact h
                  · exact Hbf.out j hj (by omega))
                have Hge : Hid (¬ cs[i1].1 ≤ (t : Int) → preK cs (t + 1) = i1) := Lib.hid (fun h => preK_eq hi1 (fun j hj k => by have := Hbf.out j hj k; push_cast; omega) (fun _ => by push_cast; omega))
                have hcb := (Hok.out cs[i1] (List.getElem_mem hi2))
                generalize cs[i1] = c at *
                obtain ⟨c1, c2⟩ := c
                dsimp only at cx cy Hs1 Hle Hge hcb
                obtain ⟨⟨k1, k2⟩, k3, k4⟩ := hcb
                have Cx := Lib.hid cx
                have Cy := Lib.hid cy
                have Hr1 := Lib.hid hr1
                clear cx cy hc hr0 hr1
                by_cases hle : c1 ≤ (t : Int)
                · have l1d : decide (c1 ≤ (t : Int)) = true := decide_eq_true hle
                  have Hbf2 := Lib.hid (Hle.out hle)
                  have hnb := stpK_bd Hok.out i1 hi1
                  rw [← Hnn1.out] at hnb
                  obtain ⟨m, hm⟩ : ∃ m, m = nn1 + c2 := ⟨_, rfl⟩
                  have gm : IntKind.i64.wrap (nn1 + c2) = m := by rw [IntWalk.i64_in _ (by omega)]; exact hm.symm
                  have Hm : Hid (m = stpK cs (i1 + 1)) := Lib.hid (by rw [hm, Hs1.out])
                  have hsub := P1.out.sub (cap := cap3) (lo := 1) (hi := rest1.length) (by omega) (Nat.le_refl _) hc1
                  rw [List.take_length] at hsub
                  have hsl : ∀ W, (Instr.slice 24 (.slice (some ⟨b, off, none⟩) rest1.length cap3) (some (.int .i64 1)) none none).run Try.prog W = .ok (.slice (subA (some ⟨b, off, none⟩) cap3 1 2) (rest1.length - 1) (cap3 - 1)) W := fun W => run_slice_lo ei_cross _ _ _ 1 1 rfl (by omega) W
                  have e : rest1.length - 1 = (rest1.drop 1).length := by simp
                  have htl : (rest1.drop 1).length < rest1.length := by simp; omega
                  have htc : (rest1.drop 1).length ≤ cap3 - 1 := by simp; omega
                  rw [e] at hsl
                  have P2 := Lib.hid hsub
                  have Hr2 : Hid (rest1.drop 1 = cs.drop (i1 + 1)) := Lib.hid Hr1.out
                  clear hsub e Hs1 Hle Hge hm hnb Hr1
                  generalize rest1.drop 1 = rest2 at *
                  generalize subA (some ⟨b, off, none⟩) cap3 1 2 = A5 at *
                  have hcm : cap3 - 1 ≤ 9223372036854775807 := by omega
                  have cCx := Cx.out
                  have cCy := Cy.out
                  go_wp2_with fail
                  go_roundw
                  case rel => exact ⟨i1 + 1, A5, _, rest2, m, by omega, rfl, rfl, Hm.out, Hr2.out, Hbf2.out, htc, hcm, P2.out, O.out, X.out⟩
                  case measure => (simp [spN]; omega)
                · have l1d : decide (c1 ≤ (t : Int)) = false := decide_eq_false hle
                  have Hpk := Lib.hid (Hge.out hle)
                  clear Hle Hge hle Hs1 Hr1
                  have l2 := Cx.out
                  have l3 := Cy.out
                  go_wp2_with fail
                  clear l2 l3
                  have Hbf1 : Hid (∀ (j : Nat) (hj : j < cs.length), j < i1 → cs[j].1 < ((t + 1 : Nat) : Int)) := Lib.hid (fun j hj k => by have := Hbf.out j hj k; push_cast; omega)
                  have HR : Hid (runsI cs rule (t + 1) = if insB nn1 rule then addR fs t else fs) := Lib.hid (by rw [runsI, Hpk.out, Hnn1.out, Hfs.out])
                  have hnb := stpK_bd Hok.out i1 hi1
                  rw [← Hnn1.out] at hnb
                  obtain ⟨hnb1, hnb2⟩ := hnb
                  have hg1 : IntKind.i64.wrap ((t : Int) + 1) = (t : Int) + 1 := IntWalk.i64_in _ (by omega)
                  clear Hbf Hpk
                  obtain ⟨ib, hib⟩ : ∃ ib, insB nn1 rule = ib := ⟨_, rfl⟩
                  rw [hib] at HR
                  have Hib := Lib.hid hib
                  clear hib
                  go_wp2_with fail
                  refine (c_iinside nn1 rule _ (by omega)).mono ?_
                  rw [Hib.out]
                  rintro e w' ⟨rfl, rfl⟩
                  cases ib
                  · have Hn : Hid (fs = runsI cs rule (t + 1)) := Lib.hid (by rw [HR.out]; rfl)
                    clear HR
                    go_wp2_with fail
                    go_roundw
                    case rel => exact ⟨t + 1, i1, A1, cap1, fs, nn1, _, cap3, rest1, by omega, hi1, by go_num, rfl, rfl, rfl, Hn.out, Hnn1.out, Hrest1.out, Hbf1.out, hc1, hc2, P1.out, O.out, X.out⟩
                    case measure => simp [intOf]; omega
                  · by_cases h0 : fs.length = 0
                    · have hk0 : decide ((0 : Int) < (fs.length : Int)) = false := decide_eq_false (by omega)
                      have hk1 : decide (0 < fs.length) = false := decide_eq_false (by omega)
                      have Hn : fs ++ [((t : Int), (t : Int) + 1)] = runsI cs rule (t + 1) := by rw [HR.out, List.eq_nil_of_length_eq_zero h0]; rfl
                      have Hz := Lib.hid h0
                      clear HR h0
                      have Hn2 : Hid (fs ++ [((t : Int), (t : Int) + 1)] = runsI cs rule (t + 1)) := Lib.hid Hn
                      have hzr : w3.heap.size ≤ wr.heap.size := X.out.size
                      clear Hn
                      go_wp2_with (at_builtin; refine wpList_app (base := w3.heap.size) ei_span rfl (.tmp 52) (.tmp 57) rfl rfl (own_ext O.out (ext_alloc _ _)) rfl (src_new _ _ [_, _] (m := 1) rfl (by intro u hu; simp only [List.mem_cons, List.not_mem_nil, or_false] at hu; rcases hu with rfl | rfl <;> rfl)) (by omega) (by simp; omega) ?_; intro ve w8 hown hg hat; refine stop_in ?_)
                      refine stop_out ?_
                      obtain ⟨A4, cap4, hve⟩ := own_form hown
                      replace X := Lib.hid (Below.grown (Ext.trans X.out (ext_alloc _ _)) hg (by simp; omega) (fun k hk => by have := (O.out.lt k hk).1; omega))
                      have heq : fs ++ [((t : Int), (t : Int) + 1)] = (fs ++ [((t : Int), (t : Int) + 1)]) := rfl
                      replace O : Hid (Has w8 w3.heap.size 53 2 (.slice A4 ((fs ++ [((t : Int), (t : Int) + 1)])).length cap4) ((fs ++ [((t : Int), (t : Int) + 1)])).length (((fs ++ [((t : Int), (t : Int) + 1)])).flatMap ptC)) := Lib.hid (by
                        have q := hown
                        rw [hve] at q
                        rw [← heq, List.flatMap_append, List.length_append]
                        exact q)
                      have hvf : ve = .slice A4 ((fs ++ [((t : Int), (t : Int) + 1)])).length cap4 := by rw [hve, ← heq, List.length_append]; rfl
                      clear hve
                      clear hown hg hat heq
                      subst hvf
                      go_wp2_with fail
                      go_roundw
                      case rel => exact ⟨t + 1, i1, A4, cap4, _, nn1, _, cap3, rest1, by omega, hi1, by go_num, rfl, rfl, rfl, Hn2.out, Hnn1.out, Hrest1.out, Hbf1.out, hc1, hc2, P1.out, O.out, X.out⟩
                      case measure => simp [intOf]; omega
                    · obtain ⟨j, hj⟩ : ∃ j, fs.length = j + 1 := ⟨fs.length - 1, by omega⟩
                      have hjl : j < fs.length := by omega
                      obtain ⟨g, rfl, hg0, hgl⟩ := own_at O.out (by omega)
                      have hk0 : decide ((0 : Int) < (fs.length : Int)) = true := decide_eq_true (by omega)
                      have hk1 : decide (0 < fs.length) = true := decide_eq_true (by omega)
                      have fy := flat_get ptC_len fs [] j hjl 1 (by omega)
                      rw [List.append_nil] at fy
                      have cy : wr.cell? ⟨g, j * 2 + 1, none⟩ = some (.int .i64 fs[j].2) := (O.out.cellAt (j * 2 + 1) (by omega)).trans fy
                      have fz := O.out.frozenAt (j * 2 + 1)
                      have HA1 : Hid (fs[j].2 = (t : Int) → addR fs t = fs.set j (fs[j].1, (t : Int) + 1)) := Lib.hid (fun h => addR_yes hj h)
                      have HA2 : Hid (¬ fs[j].2 = (t : Int) → addR fs t = fs ++ [((t : Int), (t : Int) + 1)]) := Lib.hid (fun h => addR_no hj h)
                      have fx := flat_get ptC_len fs [] j hjl 0 (by omega)
                      rw [List.append_nil] at fx
                      have hlen := flat_len ptC_len fs
                      have st := (O.out.stored (j * 2 + 1) (.int .i64 ((t : Int) + 1))).1
                      have hset : (fs.flatMap ptC).set (j * 2 + 1) (.int .i64 ((t : Int) + 1)) = (fs.set j (fs[j].1, (t : Int) + 1)).flatMap ptC := by
                        have h1 := flat_set ptC_len fs hjl (fs[j].1, (t : Int) + 1)
                        have h2 : (fs.flatMap ptC).set (j * 2) (.int .i64 fs[j].1) = fs.flatMap ptC := by
                          have hlt : j * 2 < (fs.flatMap ptC).length := by omega
                          have h3 : (fs.flatMap ptC)[j * 2] = .int .i64 fs[j].1 := by
                            have := (List.getElem?_eq_getElem hlt).symm.trans fx
                            injection this
                          rw [← h3, List.set_getElem_self]
                        rw [h2] at h1
                        exact h1
                      rw [hset] at st
                      have Hst := Lib.hid st
                      have Hb := Lib.hid (X.out.setCell (p := ⟨g, j * 2 + 1, none⟩) (by simp; omega) (.int .i64 ((t : Int) + 1)))
                      clear fy fx hlen st hset
                      have Hfl : Hid ((fs.set j (fs[j].1, (t : Int) + 1)).length = fs.length) := Lib.hid (by rw [List.length_set])
                      have vw : IntKind.i64.wrap ((fs.length : Int) - 1) = (j : Int) := by rw [IntWalk.i64_in _ (by omega)]; omega
                      have vb1 : (j : Int) < (fs.length : Int) := by omega
                      have HJ := Lib.hid hj
                      generalize fs[j] = q at *
                      obtain ⟨q1, q2⟩ := q
                      dsimp only at cy HA1 HA2 Hst Hfl
                      have Cy := Lib.hid cy
                      clear hj h0
                      by_cases hq : q2 = (t : Int)
                      · have hqb : (q2 == (t : Int)) = true := by simp [hq]
                        have Hn : Hid (fs.set j (q1, (t : Int) + 1) = runsI cs rule (t + 1)) := Lib.hid (by rw [HR.out, ← HA1.out hq]; rfl)
                        have hg2 : IntKind.i64.wrap (q2 + 1) = (t : Int) + 1 := by rw [IntWalk.i64_in _ (by omega)]; omega
                        clear HR HA1 HA2 hq
                        go_wp2_with fail
                        go_roundw
                        case rel => exact ⟨t + 1, i1, _, cap1, _, nn1, _, cap3, rest1, by omega, hi1, by go_num, rfl, by rw [Hfl.out], rfl, Hn.out, Hnn1.out, Hrest1.out, Hbf1.out, hc1, hc2, P1.out, by rw [Hfl.out]; exact Hst.out, Hb.out⟩
                        case measure => simp [intOf]; omega
                      · have hqb : (q2 == (t : Int)) = false := by simp [hq]
                        have Hn : fs ++ [((t : Int), (t : Int) + 1)] = runsI cs rule (t + 1) := by rw [HR.out, ← HA2.out hq]; rfl
                        clear HR HA1 HA2 hq Hst Hb Hfl
                        have Hn2 : Hid (fs ++ [((t : Int), (t : Int) + 1)] = runsI cs rule (t + 1)) := Lib.hid Hn
                        have hzr : w3.heap.size ≤ wr.heap.size := X.out.size
                        clear Hn
                        go_wp2_with (at_builtin; refine wpList_app (base := w3.heap.size) ei_span rfl (.tmp 52) (.tmp 57) rfl rfl (own_ext O.out (ext_alloc _ _)) rfl (src_new _ _ [_, _] (m := 1) rfl (by intro u hu; simp only [List.mem_cons, List.not_mem_nil, or_false] at hu; rcases hu with rfl | rfl <;> rfl)) (by omega) (by simp; omega) ?_; intro ve w8 hown hg hat; refine stop_in ?_)
                        refine stop_out ?_
                        obtain ⟨A4, cap4, hve⟩ := own_form hown
                        replace X := Lib.hid (Below.grown (Ext.trans X.out (ext_alloc _ _)) hg (by simp; omega) (fun k hk => by have := (O.out.lt k hk).1; omega))
                        have heq : fs ++ [((t : Int), (t : Int) + 1)] = (fs ++ [((t : Int), (t : Int) + 1)]) := rfl
                        replace O : Hid (Has w8 w3.heap.size 53 2 (.slice A4 ((fs ++ [((t : Int), (t : Int) + 1)])).length cap4) ((fs ++ [((t : Int), (t : Int) + 1)])).length (((fs ++ [((t : Int), (t : Int) + 1)])).flatMap ptC)) := Lib.hid (by
                          have q := hown
                          rw [hve] at q
                          rw [← heq, List.flatMap_append, List.length_append]
                          exact q)
                        have hvf : ve = .slice A4 ((fs ++ [((t : Int), (t : Int) + 1)])).length cap4 := by rw [hve, ← heq, List.length_append]; rfl
                        clear hve
                        clear hown hg hat heq
                        subst hvf
                        go_wp2_with fail
                        go_roundw
                        case rel => exact ⟨t + 1, i1, A4, cap4, _, nn1, _, cap3, rest1, by omega, hi1, by go_num, rfl, rfl, rfl, Hn2.out, Hnn1.out, Hrest1.out, Hbf1.out, hc1, hc2, P1.out, O.out, X.out⟩
                        case measure => simp [intOf]; omega
              · have n1d : decide ((0 : Int) < (rest1.length : Int)) = false := decide_eq_false (by omega)
                have n2d : decide (0 < rest1.length) = false := decide_eq_false hn
                have Hpk : Hid (preK cs (t + 1) = i1) := Lib.hid (by
                  have hd := congrArg List.length Hrest1.out
                  rw [List.length_drop] at hd
                  exact preK_eq hi1 (fun j hj k => by have := Hbf.out j hj k; push_cast; omega) (fun h => by omega))
                have Hn0 := Lib.hid hn
                clear hn
                go_wp2_with fail
                have Hbf1 : Hid (∀ (j : Nat) (hj : j < cs.length), j < i1 → cs[j].1 < ((t + 1 : Nat) : Int)) := Lib.hid (fun j hj k => by have := Hbf.out j hj k; push_cast; omega)
                have HR : Hid (runsI cs rule (t + 1) = if insB nn1 rule then addR fs t else fs) := Lib.hid (by rw [runsI, Hpk.out, Hnn1.out, Hfs.out])
                have hnb := stpK_bd Hok.out i1 hi1
                rw [← Hnn1.out] at hnb
                obtain ⟨hnb1, hnb2⟩ := hnb
                have hg1 : IntKind.i64.wrap ((t : Int) + 1) = (t : Int) + 1 := IntWalk.i64_in _ (by omega)
                clear Hbf Hpk
                obtain ⟨ib, hib⟩ : ∃ ib, insB nn1 rule = ib := ⟨_, rfl⟩
                rw [hib] at HR
                have Hib := Lib.hid hib
                clear hib
                go_wp2_with fail
                refine (c_iinside nn1 rule _ (by omega)).mono ?_
                rw [Hib.out]
                rintro e w' ⟨rfl, rfl⟩
                cases ib
                · have Hn : Hid (fs = runsI cs rule (t + 1)) := Lib.hid (by rw [HR.out]; rfl)
                  clear HR
                  go_wp2_with fail
                  go_roundw
                  case rel => exact ⟨t + 1, i1, A1, cap1, fs, nn1, _, cap3, rest1, by omega, hi1, by go_num, rfl, rfl, rfl, Hn.out, Hnn1.out, Hrest1.out, Hbf1.out, hc1, hc2, P1.out, O.out, X.out⟩
                  case measure => simp [intOf]; omega
                · by_cases h0 : fs.length = 0
                  · have hk0 : decide ((0 : Int) < (fs.length : Int)) = false := decide_eq_false (by omega)
                    have hk1 : decide (0 < fs.length) = false := decide_eq_false (by omega)
                    have Hn : fs ++ [((t : Int), (t : Int) + 1)] = runsI cs rule (t + 1) := by rw [HR.out, List.eq_nil_of_length_eq_zero h0]; rfl
                    have Hz := Lib.hid h0
                    clear HR h0
                    have Hn2 : Hid (fs ++ [((t : Int), (t : Int) + 1)] = runsI cs rule (t + 1)) := Lib.hid Hn
                    have hzr : w3.heap.size ≤ wr.heap.size := X.out.size
                    clear Hn
                    go_wp2_with (at_builtin; refine wpList_app (base := w3.heap.size) ei_span rfl (.tmp 52) (.tmp 57) rfl rfl (own_ext O.out (ext_alloc _ _)) rfl (src_new _ _ [_, _] (m := 1) rfl (by intro u hu; simp only [List.mem_cons, List.not_mem_nil, or_false] at hu; rcases hu with rfl | rfl <;> rfl)) (by omega) (by simp; omega) ?_; intro ve w8 hown hg hat; refine stop_in ?_)
                    refine stop_out ?_
                    obtain ⟨A4, cap4, hve⟩ := own_form hown
                    replace X := Lib.hid (Below.grown (Ext.trans X.out (ext_alloc _ _)) hg (by simp; omega) (fun k hk => by have := (O.out.lt k hk).1; omega))
                    have heq : fs ++ [((t : Int), (t : Int) + 1)] = (fs ++ [((t : Int), (t : Int) + 1)]) := rfl
                    replace O : Hid (Has w8 w3.heap.size 53 2 (.slice A4 ((fs ++ [((t : Int), (t : Int) + 1)])).length cap4) ((fs ++ [((t : Int), (t : Int) + 1)])).length (((fs ++ [((t : Int), (t : Int) + 1)])).flatMap ptC)) := Lib.hid (by
                      have q := hown
                      rw [hve] at q
                      rw [← heq, List.flatMap_append, List.length_append]
                      exact q)
                    have hvf : ve = .slice A4 ((fs ++ [((t : Int), (t : Int) + 1)])).length cap4 := by rw [hve, ← heq, List.length_append]; rfl
                    clear hve
                    clear hown hg hat heq
                    subst hvf
                    go_wp2_with fail
                    go_roundw
                    case rel => exact ⟨t + 1, i1, A4, cap4, _, nn1, _, cap3, rest1, by omega, hi1, by go_num, rfl, rfl, rfl, Hn2.out, Hnn1.out, Hrest1.out, Hbf1.out, hc1, hc2, P1.out, O.out, X.out⟩
                    case measure => simp [intOf]; omega
                  · obtain ⟨j, hj⟩ : ∃ j, fs.length = j + 1 := ⟨fs.length - 1, by omega⟩
                    have hjl : j < fs.length := by omega
                    obtain ⟨g, rfl, hg0, hgl⟩ := own_at O.out (by omega)
                    have hk0 : decide ((0 : Int) < (fs.length : Int)) = true := decide_eq_true (by omega)
                    have hk1 : decide (0 < fs.length) = true := decide_eq_true (by omega)
                    have fy := flat_get ptC_len fs [] j hjl 1 (by omega)
                    rw [List.append_nil] at fy
                    have cy : wr.cell? ⟨g, j * 2 + 1, none⟩ = some (.int .i64 fs[j].2) := (O.out.cellAt (j * 2 + 1) (by omega)).trans fy
                    have fz := O.out.frozenAt (j * 2 + 1)
                    have HA1 : Hid (fs[j].2 = (t : Int) → addR fs t = fs.set j (fs[j].1, (t : Int) + 1)) := Lib.hid (fun h => addR_yes hj h)
                    have HA2 : Hid (¬ fs[j].2 = (t : Int) → addR fs t = fs ++ [((t : Int), (t : Int) + 1)]) := Lib.hid (fun h => addR_no hj h)
                    have fx := flat_get ptC_len fs [] j hjl 0 (by omega)
                    rw [List.append_nil] at fx
                    have hlen := flat_len ptC_len fs
                    have st := (O.out.stored (j * 2 + 1) (.int .i64 ((t : Int) + 1))).1
                    have hset : (fs.flatMap ptC).set (j * 2 + 1) (.int .i64 ((t : Int) + 1)) = (fs.set j (fs[j].1, (t : Int) + 1)).flatMap ptC := by
                      have h1 := flat_set ptC_len fs hjl (fs[j].1, (t : Int) + 1)
                      have h2 : (fs.flatMap ptC).set (j * 2) (.int .i64 fs[j].1) = fs.flatMap ptC := by
                        have hlt : j * 2 < (fs.flatMap ptC).length := by omega
                        have h3 : (fs.flatMap ptC)[j * 2] = .int .i64 fs[j].1 := by
                          have := (List.getElem?_eq_getElem hlt).symm.trans fx
                          injection this
                        rw [← h3, List.set_getElem_self]
                      rw [h2] at h1
                      exact h1
                    rw [hset] at st
                    have Hst := Lib.hid st
                    have Hb := Lib.hid (X.out.setCell (p := ⟨g, j * 2 + 1, none⟩) (by simp; omega) (.int .i64 ((t : Int) + 1)))
                    clear fy fx hlen st hset
                    have Hfl : Hid ((fs.set j (fs[j].1, (t : Int) + 1)).length = fs.length) := Lib.hid (by rw [List.length_set])
                    have vw : IntKind.i64.wrap ((fs.length : Int) - 1) = (j : Int) := by rw [IntWalk.i64_in _ (by omega)]; omega
                    have vb1 : (j : Int) < (fs.length : Int) := by omega
                    have HJ := Lib.hid hj
                    generalize fs[j] = q at *
                    obtain ⟨q1, q2⟩ := q
                    dsimp only at cy HA1 HA2 Hst Hfl
                    have Cy := Lib.hid cy
                    clear hj h0
                    by_cases hq : q2 = (t : Int)
                    · have hqb : (q2 == (t : Int)) = true := by simp [hq]
                      have Hn : Hid (fs.set j (q1, (t : Int) + 1) = runsI cs rule (t + 1)) := Lib.hid (by rw [HR.out, ← HA1.out hq]; rfl)
                      have hg2 : IntKind.i64.wrap (q2 + 1) = (t : Int) + 1 := by rw [IntWalk.i64_in _ (by omega)]; omega
                      clear HR HA1 HA2 hq
                      go_wp2_with fail
                      go_roundw
                      case rel => exact ⟨t + 1, i1, _, cap1, _, nn1, _, cap3, rest1, by omega, hi1, by go_num, rfl, by rw [Hfl.out], rfl, Hn.out, Hnn1.out, Hrest1.out, Hbf1.out, hc1, hc2, P1.out, by rw [Hfl.out]; exact Hst.out, Hb.out⟩
                      case measure => simp [intOf]; omega
                    · have hqb : (q2 == (t : Int)) = false := by simp [hq]
                      have Hn : fs ++ [((t : Int), (t : Int) + 1)] = runsI cs rule (t + 1) := by rw [HR.out, ← HA2.out hq]; rfl
                      clear HR HA1 HA2 hq Hst Hb Hfl
                      have Hn2 : Hid (fs ++ [((t : Int), (t : Int) + 1)] = runsI cs rule (t + 1)) := Lib.hid Hn
                      have hzr : w3.heap.size ≤ wr.heap.size := X.out.size
                      clear Hn
                      go_wp2_with (at_builtin; refine wpList_app (base := w3.heap.size) ei_span rfl (.tmp 52) (.tmp 57) rfl rfl (own_ext O.out (ext_alloc _ _)) rfl (src_new _ _ [_, _] (m := 1) rfl (by intro u hu; simp only [List.mem_cons, List.not_mem_nil, or_false] at hu; rcases hu with rfl | rfl <;> rfl)) (by omega) (by simp; omega) ?_; intro ve w8 hown hg hat; refine stop_in ?_)
                      refine stop_out ?_
                      obtain ⟨A4, cap4, hve⟩ := own_form hown
                      replace X := Lib.hid (Below.grown (Ext.trans X.out (ext_alloc _ _)) hg (by simp; omega) (fun k hk => by have := (O.out.lt k hk).1; omega))
                      have heq : fs ++ [((t : Int), (t : Int) + 1)] = (fs ++ [((t : Int), (t : Int) + 1)]) := rfl
                      replace O : Hid (Has w8 w3.heap.size 53 2 (.slice A4 ((fs ++ [((t : Int), (t : Int) + 1)])).length cap4) ((fs ++ [((t : Int), (t : Int) + 1)])).length (((fs ++ [((t : Int), (t : Int) + 1)])).flatMap ptC)) := Lib.hid (by
                        have q := hown
                        rw [hve] at q
                        rw [← heq, List.flatMap_append, List.length_append]
                        exact q)
                      have hvf : ve = .slice A4 ((fs ++ [((t : Int), (t : Int) + 1)])).length cap4 := by rw [hve, ← heq, List.length_append]; rfl
                      clear hve
                      clear hown hg hat heq
                      subst hvf
                      go_wp2_with fail
                      go_roundw
                      case rel => exact ⟨t + 1, i1, A4, cap4, _, nn1, _, cap3, rest1, by omega, hi1, by go_num, rfl, rfl, rfl, Hn2.out, Hnn1.out, Hrest1.out, Hbf1.out, hc1, hc2, P1.out, O.out, X.out⟩
                      case measure => simp [intOf]; omega
          · have ht' : t = 48 := by omega
            have v1d : decide ((t : Int) < 48) = false := decide_eq_false (by omega)
            have Hz : Hid (fs = S) := Lib.hid (by rw [Hfs.out, ht', Hf.out])
            clear ht'
            go_wp2_with fail
            refine (c_ClipS A1 fs.length cap1 _ O.out.slok).mono ?_
            rintro e w' ⟨rfl, rfl⟩
            go_wp2
            go_ret
            rw [← Hz.out]
            exact ⟨A1, fs.length, rfl, O.out.clip.rebase (by omega), Ext.trans E.out (X.out.mono (by omega))⟩
set_option maxRecDepth 100000 in
set_option maxHeartbeats 8000000 in
theorem c_sSpansOf (A : Option Addr) (cap : Nat) (rs : List Rg) (rule row : Int) (w : World) (h : Rgs w A rs) (hl : rs.length ≤ 1000000000) (hs : ∀ r ∈ rs, r.length ≤ 1000000000) :
    Calls Try.prog 14 #[.slice A rs.length cap, .int .i64 rule, .int .i64 row] w fun e w' => RetP 53 w (spanR rs rule row) e w' := by
  have K0 := Lib.hid (fun W (hW : Rgs W A rs) => c_sValidRings A cap rs W hW hl hs)
  have H := Lib.hid h
  clear h hs
  obtain ⟨S, hS⟩ : ∃ S, spanR rs rule row = S := ⟨_, rfl⟩
  rw [hS]
  obtain ⟨d1, hd1⟩ : ∃ d, rgsB rs = d := ⟨_, rfl⟩
  obtain ⟨d2, hd2⟩ : ∃ d, inB rule 0 1 = d := ⟨_, rfl⟩
  obtain ⟨d3, hd3⟩ : ∃ d, inB row 0 47 = d := ⟨_, rfl⟩
  have HS : Hid (S = if (d1 && d2 && d3) = true then runsE (srtC (crsL (edgesS rs) (4 * row + 2))) rule else []) := Lib.hid (by rw [← hS]; unfold spanR; rw [hd1, hd2, hd3])
  have Hno : Hid (∀ b, (d1 && d2 && d3) = b → b = false → S = []) := Lib.hid (fun b h1 h2 => by rw [HS.out, h1, h2]; rfl)
  have H1 := Lib.hid hd1
  have H2 := Lib.hid hd2
  have H3 := Lib.hid hd3
  have E := Lib.hid (Below.refl w.heap.size w)
  clear hS hd1 hd2 hd3
  go_enter Try.func14, Try.ntmps14
  go_wp2_with fail
  refine (K0.out _ H.out).mono ?_
  rw [H1.out]
  rintro e w1 ⟨rfl, hb⟩
  replace E := Lib.hid (Ext.trans E.out hb)
  replace H := Lib.hid (H.out.ext rgR_stab hb)
  clear hb
  cases d1
  · have Hf := Lib.hid (Hno.out _ rfl (by simp))
    go_wp2
    go_ret
    exact RetP.none Hf.out E.out
  · go_wp2_with fail
    refine (c_inRange rule 0 1 _).mono ?_
    rw [H2.out]
    rintro e w' ⟨rfl, rfl⟩
    cases d2
    · have Hf := Lib.hid (Hno.out _ rfl (by simp))
      go_wp2
      go_ret
      exact RetP.none Hf.out E.out
    · go_wp2_with fail
      refine (c_inRange row 0 47 _).mono ?_
      rw [H3.out]
      rintro e w' ⟨rfl, rfl⟩
      cases d3
      · have Hf := Lib.hid (Hno.out _ rfl (by simp))
        go_wp2
        go_ret
        exact RetP.none Hf.out E.out
      · have hb := inB_iff.1 H3.out
        obtain ⟨hb1, hb2⟩ := hb
        have hcl := crs_len H1.out (4 * row + 2)
        have Hok := Lib.hid (crs_ok (edgesS rs) (4 * row + 2))
        have Hf : Hid (runsE (srtC (crsL (edgesS rs) (4 * row + 2))) rule = S) := Lib.hid (by rw [HS.out]; rfl)
        have hz2 := E.out.size
        clear HS Hno
        go_wp2_with fail
        refine (c_scrossings A cap rs (4 * row + 2) _ H.out H1.out (by omega)).mono ?_
        generalize srtC (crsL (edgesS rs) (4 * row + 2)) = cs at *
        rintro e w3 ⟨A2, cap2, rfl, ho, hb⟩
        have P := Lib.hid (own_in (R := ptR) (enc := ptC) ptC_len (by decide) ho (fun _ => rfl))
        replace E := Lib.hid (Ext.trans E.out hb)
        have hz3 : w.heap.size ≤ w3.heap.size := E.out.size
        clear ho hb H K0
        go_wp2_with fail
        refine (c_sspans A2 cap2 cs rule _ P.out (by omega) Hok.out).mono ?_
        rw [Hf.out]
        rintro e w4 ⟨A', cap', rfl, ho, hb⟩
        have O := Lib.hid (ho.rebase hz3)
        replace E := Lib.hid (Ext.trans E.out hb)
        clear ho hb
        go_wp2
        go_ret
        exact ⟨A', cap', rfl, O.out, E.out⟩
end Go.Proofs.Yteknlifgejpjfaa
