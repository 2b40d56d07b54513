/-
  The reference's turns of workers: the walks.
-/
import Derived.Test.YtnmnomhoghkdjaaWorkT
namespace Go.Proofs.Ytnmnomhoghkdjaa
open Go Go.RowKit Reg
attribute [local go_sem] calmAt calmUpon
/-- A turn: the queues behind it, and the tile that is drawn, -1 for none. -/
def popQ (qs : List (List Int)) (a b : Nat) : List (List Int) × Int :=
  if 0 < (qs.getD a []).length then (qs.set a (qs.getD a []).dropLast, (qs.getD a []).getLastD 0)
  else if 0 < (qs.getD b []).length then (qs.set b ((qs.getD b []).drop 1), (qs.getD b []).headD 0)
  else (qs, -1)
theorem stepW_popQ (qs : List (List Int)) (out : List Pt) (a b : Nat) (ha : a < qs.length) (hb : b < qs.length) (hq : ∀ q ∈ qs, ∀ x ∈ q, 0 ≤ x) :
    stepW (qs, out) (a, b) = ((popQ qs a b).1, if 0 ≤ (popQ qs a b).2 then out ++ [((a : Int), (popQ qs a b).2)] else out) := by
  unfold stepW popQ
  dsimp only
  split
  · rename_i h
    rw [getD_of ha] at h ⊢
    have hne : qs[a] ≠ [] := by intro hh; rw [hh] at h; simp at h
    have : 0 ≤ (qs[a]).getLastD 0 := by
      rw [List.getLastD_eq_getLast?, List.getLast?_eq_some_getLast hne]
      exact hq _ (List.getElem_mem ha) _ (List.getLast_mem hne)
    dsimp only
    rw [if_pos this]
  · split
    · rename_i h
      rw [getD_of hb] at h ⊢
      have : 0 ≤ (qs[b]).headD 0 := by
        have := hq _ (List.getElem_mem hb)
        generalize qs[b] = q at *
        match q, h with
        | x :: q, _ => exact this x (by simp)
      dsimp only
      rw [if_pos this]
    · dsimp only; rw [if_neg (by omega)]
def dqR : World → Dq → List Value → Prop := fun _ d us => us = dqC d
theorem dqR_stab : Stab dqR := fun _ _ _ _ h _ => h
theorem In.dqs {w : World} {A : Option Addr} {ds : List Dq} (h : In dqR 3 w A ds) (hn : 0 < ds.length) : ∃ b off, A = some ⟨b, off, none⟩ ∧ b < w.heap.size ∧
    ∀ (k : Nat) (h : k < ds.length), w.cell? ⟨b, off + k * 3, none⟩ = some (.slice ds[k].1 16 ds[k].2.1) ∧ w.cell? ⟨b, off + k * 3 + 1, none⟩ = some (.int .i64 ds[k].2.2.1) ∧ w.cell? ⟨b, off + k * 3 + 2, none⟩ = some (.int .i64 ds[k].2.2.2) := by
  have hlt := h.lt (by omega) hn
  obtain ⟨b, off, hA, hc⟩ := h hn
  refine ⟨b, off, hA, hlt b off hA, fun k hk => ?_⟩
  obtain ⟨us, h1, _, h3⟩ := hc k hk
  have h1' : us = dqC ds[k] := h1
  subst h1'
  exact ⟨h3 0 _ rfl, h3 1 _ rfl, h3 2 _ rfl⟩
theorem dq_set (ds : List Dq) {k : Nat} (hk : k < ds.length) (d : Dq) : (((ds.flatMap dqC).set (k * 3) (.slice d.1 16 d.2.1)).set (k * 3 + 1) (.int .i64 d.2.2.1)).set (k * 3 + 2) (.int .i64 d.2.2.2) = (ds.set k d).flatMap dqC := by
  have := setAll_take_drop dqC_len ds hk d
  simpa [setAll, dqC] using this
theorem Has.some_at {w : World} {B e sz n g cap : Nat} {xs : List Value} (h : Has w B e sz (.slice (some ⟨g, 0, none⟩) n cap) n xs) (j : Nat) (hj : j < n * sz) : ∃ u, w.cell? ⟨g, j, none⟩ = some u :=
  ⟨_, by rw [h.cellAt j hj]; exact List.getElem?_eq_getElem (by have := h.1; omega)⟩
theorem dq_store {w w6 W7 : World} {g cap a : Nat} {ds : List Dq} {qs : List (List Int)} {d : Dq} {xs : List Int} (hO : Has w6 w.heap.size 71 3 (.slice (some ⟨g, 0, none⟩) ds.length cap) ds.length (ds.flatMap dqC))
    (hd : DsAre w6 ds qs) (hE : DqIs w6 d xs) (hb : Ext w w6) (hg : w.heap.size ≤ g) (ha : a < ds.length) (hX : Ext w6 W7) :
    Has (((W7.setCell ⟨g, a * 3, none⟩ (.slice d.1 16 d.2.1)).setCell ⟨g, a * 3 + 1, none⟩ (.int .i64 d.2.2.1)).setCell ⟨g, a * 3 + 2, none⟩ (.int .i64 d.2.2.2)) w.heap.size 71 3 (.slice (some ⟨g, 0, none⟩) (ds.set a d).length cap) (ds.set a d).length ((ds.set a d).flatMap dqC) ∧
    DsAre (((W7.setCell ⟨g, a * 3, none⟩ (.slice d.1 16 d.2.1)).setCell ⟨g, a * 3 + 1, none⟩ (.int .i64 d.2.2.1)).setCell ⟨g, a * 3 + 2, none⟩ (.int .i64 d.2.2.2)) (ds.set a d) (qs.set a xs) ∧
    Below w.heap.size w (((W7.setCell ⟨g, a * 3, none⟩ (.slice d.1 16 d.2.1)).setCell ⟨g, a * 3 + 1, none⟩ (.int .i64 d.2.2.1)).setCell ⟨g, a * 3 + 2, none⟩ (.int .i64 d.2.2.2)) := by
  have h7 := own_ext hO hX
  have st := ((h7.stored (a * 3) (.slice d.1 16 d.2.1)).1.stored (a * 3 + 1) (.int .i64 d.2.2.1)).1.stored (a * 3 + 2) (.int .i64 d.2.2.2)
  rw [dq_set ds ha d] at st
  refine ⟨by rw [List.length_set]; exact st.1, ((hd.set a hE).ext hX).grown h7 NE_DI (only_set (only_set (only_set (only_refl W7 _) (a * 3) _) (a * 3 + 1) _) (a * 3 + 2) _), (((Ext.trans hb hX).setCell (by exact hg) _).setCell (by exact hg) _).setCell (by exact hg) _⟩
theorem dq_box {w w8 : World} {n7 g cap B n : Nat} {ds : List Dq} {qs : List (List Int)} {cs rs : List Value} (u0 u1 u2 : Value) (hO : Has w8 B 71 3 (.slice (some ⟨g, 0, none⟩) n cap) n cs)
    (hd : DsAre w8 ds qs) (hb : Ext w w8) (hR : Row w8 n7 71 rs) (hn : w.heap.size ≤ n7) (hg : g ≠ n7) :
    Has (((w8.setCell ⟨n7, 0, none⟩ u0).setCell ⟨n7, 1, none⟩ u1).setCell ⟨n7, 2, none⟩ u2) B 71 3 (.slice (some ⟨g, 0, none⟩) n cap) n cs ∧
    DsAre (((w8.setCell ⟨n7, 0, none⟩ u0).setCell ⟨n7, 1, none⟩ u1).setCell ⟨n7, 2, none⟩ u2) ds qs ∧
    (∀ d xs, DqIs w8 d xs → DqIs (((w8.setCell ⟨n7, 0, none⟩ u0).setCell ⟨n7, 1, none⟩ u1).setCell ⟨n7, 2, none⟩ u2) d xs) ∧
    Below w.heap.size w (((w8.setCell ⟨n7, 0, none⟩ u0).setCell ⟨n7, 1, none⟩ u1).setCell ⟨n7, 2, none⟩ u2) := by
  have G : w8.grownBy (((w8.setCell ⟨n7, 0, none⟩ u0).setCell ⟨n7, 1, none⟩ u1).setCell ⟨n7, 2, none⟩ u2) (some n7) := only_set (only_set (only_set (only_refl w8 _) 0 _) 1 _) 2 _
  have key : ∀ d xs, DqIs w8 d xs → DqIs (((w8.setCell ⟨n7, 0, none⟩ u0).setCell ⟨n7, 1, none⟩ u1).setCell ⟨n7, 2, none⟩ u2) d xs := fun d xs ⟨t, h1, h2, h3, h4, h5⟩ =>
    ⟨t, h1, h2, h3, h4.kept G (.inr fun hh => ne_block hR h4 (Ne.symm NE_DI) hh.symm), h5⟩
  refine ⟨hO.kept G (.inr fun hh => hg (by simpa [Value.ownBlock] using hh)), ⟨hd.1, fun i h1 h2 => key _ _ (hd.2 i h1 h2)⟩, key, ((hb.setCell (by exact hn) _).setCell (by exact hn) _).setCell (by exact hn) _⟩
set_option maxRecDepth 100000 in
set_option maxHeartbeats 4000000 in
theorem c_turn (A : Option Addr) (cap : Nat) (ds : List Dq) (qs : List (List Int)) (a b : Nat) (w : World) (h : In dqR 3 w A ds) (hd : DsAre w ds qs) (ha : a < ds.length) (hb : b < ds.length) (hl : ds.length ≤ 4) :
    Calls Try.prog 45 #[.slice A ds.length cap, .agg #[.int .i64 a, .int .i64 b]] w fun e w' => ∃ A' cap' ds', e = .returned (.tuple #[.slice A' ds'.length cap', .int .i64 (popQ qs a b).2]) ∧
      Has w' w.heap.size 71 3 (.slice A' ds'.length cap') ds'.length (ds'.flatMap dqC) ∧ DsAre w' ds' (popQ qs a b).1 ∧ Below w.heap.size w w' := by
  have Hlq := Lib.hid hd.1
  have H := Lib.hid h
  have Hd := Lib.hid hd
  clear h
  obtain ⟨bA, off, hA, hbA, hc⟩ := H.out.dqs (by omega)
  obtain ⟨ca0, ca1, ca2⟩ := hc a ha
  have hda := hd.2 a ha (by have := Hlq.out; omega)
  subst hA
  by_cases hna : 0 < (qs.getD a []).length
  · have Hp : Hid (popQ qs a b = (qs.set a (qs.getD a []).dropLast, (qs.getD a []).getLastD 0)) := Lib.hid (by unfold popQ; rw [if_pos hna])
    have hg : qs.getD a [] = qs[a]'(by have := Hlq.out; omega) := getD_of (by have := Hlq.out; omega)
    rw [hg] at Hp hna
    rw [Hp.out]
    dsimp only
    have HDa := Lib.hid hda
    generalize hxs : qs[a]'(by have := Hlq.out; omega) = xs at *
    generalize hdv : ds[a] = d at *
    clear hc hg hda hxs hdv Hp hd
    obtain ⟨tl, htl⟩ : ∃ tl, tl = xs.getLastD 0 := ⟨_, rfl⟩
    rw [← htl]
    obtain ⟨top, HDt⟩ := HDa.out
    have KP := Lib.hid (fun W (hW : DqAt W d top xs) => c_PopTile d top xs W hW hna)
    rw [← htl] at KP
    have HDt := Lib.hid HDt
    clear HDa hna htl
    go_enter Try.func45, Try.ntmps45
    have E := Lib.hid (Below.refl w.heap.size w)
    have Ca0 := Lib.hid ca0
    have Ca1 := Lib.hid ca1
    have Ca2 := Lib.hid ca2
    clear ca0 ca1 ca2
    go_wp2_with (at_builtin; refine stop_in ?_)
    refine stop_out ?_
    refine gen_list ?_
    intro w1 hW
    obtain ⟨hb, hT, hZ⟩ := new2 hW
    clear hW
    replace E := Lib.hid (Ext.trans E.out hb)
    clear hb
    have T := Lib.hid hT
    have lT := T.out.lt
    clear hT
    have Z := Lib.hid hZ
    have lZ := Z.out.lt
    clear hZ
    have O := Lib.hid (own_of_row (n := 0) (B := w.heap.size) (sz := 3) Z.out (by omega) rfl (by decide))
    clear Z lZ
    have S := Lib.hid ((H.out.ext dqR_stab E.out).src dqC_len (fun x us h => h) dqC_one (by decide))
    refine wpList_app (base := w.heap.size) ei_dq rfl (.tmp 10) (.tmp 11) rfl rfl O.out rfl S.out (by omega) E.out.size ?_
    intro v5 w5 hown hg hat
    refine stop_in ?_
    refine stop_out ?_
    obtain ⟨A5, cap5, hv5⟩ := own_form hown
    rw [Nat.zero_add] at hown hv5
    rw [List.nil_append] at hown
    subst hv5
    replace T := Lib.hid (T.out.grownNe O.out (by decide) hg)
    replace E := Lib.hid (own_below E.out O.out hg E.out.size)
    have O5 : Hid (Has w5 w.heap.size 71 3 (.slice A5 ds.length cap5) ds.length (ds.flatMap dqC)) := Lib.hid hown
    clear hown hg hat O S
    replace Hd := Lib.hid (Hd.out.ext E.out)
    replace HDt := Lib.hid (HDt.out.ext E.out)
    replace Ca0 := Lib.hid (Cls.cell E.out Ca0.out)
    replace Ca1 := Lib.hid (Cls.cell E.out Ca1.out)
    replace Ca2 := Lib.hid (Cls.cell E.out Ca2.out)
    have cCa0 := Ca0.out
    have cCa1 := Ca1.out
    have cCa2 := Ca2.out
    have t0 := T.out.cell_of (i := 0) rfl
    have t1 := T.out.cell_of (i := 1) rfl
    have hal : (a : Int) < (ds.length : Int) := by omega
    go_wp2_with fail
    clear cCa0 cCa1 cCa2 t0 t1
    refine (KP.out _ HDt.out).mono ?_
    rintro e w6 ⟨d', rfl, hd', hb⟩
    replace E := Lib.hid (Ext.trans E.out hb)
    replace T := Lib.hid (T.out.ext hb)
    have lT := T.out.lt
    replace O5 := Lib.hid (own_ext O5.out hb)
    replace Hd := Lib.hid (Hd.out.ext hb)
    replace HDt := Lib.hid (HDt.out.ext hb)
    replace Ca0 := Lib.hid (Cls.cell hb Ca0.out)
    replace Ca1 := Lib.hid (Cls.cell hb Ca1.out)
    replace Ca2 := Lib.hid (Cls.cell hb Ca2.out)
    clear hb
    have cCa0 := Ca0.out
    have cCa1 := Ca1.out
    have cCa2 := Ca2.out
    have t0 := T.out.cell_of (i := 0) rfl
    have t1 := T.out.cell_of (i := 1) rfl
    have HE := Lib.hid hd'
    clear hd'
    obtain ⟨g, rfl, hg1, hg2⟩ := own_at O5.out (by omega)
    obtain ⟨o0, co0⟩ := O5.out.some_at (a * 3) (by omega)
    obtain ⟨o1, co1⟩ := O5.out.some_at (a * 3 + 1) (by omega)
    obtain ⟨o2, co2⟩ := O5.out.some_at (a * 3 + 2) (by omega)
    have f0 := O5.out.frozenAt (a * 3)
    have f1 := O5.out.frozenAt (a * 3 + 1)
    have f2 := O5.out.frozenAt (a * 3 + 2)
    have ha0 : (0 : Int) ≤ (a : Int) := by omega
    have hgne : g ≠ w6.heap.size := by omega
    go_wp2_with fail
    obtain ⟨q1, q2, q3⟩ := dq_store O5.out Hd.out ⟨top, HE.out⟩ E.out hg1 ha (Below.refl _ w6)
    exact bodyPost_ret (v := .tuple #[.slice (some ⟨g, 0, none⟩) ds.length cap5, .int .i64 tl]) (by simp [results, Try.results45, go_sem]) rfl ⟨_, cap5, ds.set a d', by rw [List.length_set], own_ext q1 (ext_alloc _ _), q2.ext (ext_alloc _ _), Ext.trans q3 (ext_alloc _ _)⟩
  · by_cases hnb : 0 < (qs.getD b []).length
    · have Hp : Hid (popQ qs a b = (qs.set b ((qs.getD b []).drop 1), (qs.getD b []).headD 0)) := Lib.hid (by unfold popQ; rw [if_neg hna, if_pos hnb])
      have hga : qs.getD a [] = qs[a]'(by have := Hlq.out; omega) := getD_of (by have := Hlq.out; omega)
      have hgb : qs.getD b [] = qs[b]'(by have := Hlq.out; omega) := getD_of (by have := Hlq.out; omega)
      have hxa : qs[a]'(by have := Hlq.out; omega) = [] := by rw [hga] at hna; exact List.eq_nil_of_length_eq_zero (by omega)
      obtain ⟨cb0, cb1, cb2⟩ := hc b hb
      have hdb := hd.2 b hb (by have := Hlq.out; omega)
      rw [hgb] at Hp hnb
      rw [Hp.out]
      dsimp only
      rw [hxa] at hda
      have HDa := Lib.hid hda
      have HDb := Lib.hid hdb
      generalize hxs : qs[b]'(by have := Hlq.out; omega) = xs at *
      generalize hdv : ds[a] = da at *
      generalize hdw : ds[b] = d at *
      clear hc hga hgb hda hdb hxa hxs hdv hdw Hp hd hna
      have KP := Lib.hid (fun W (hW : DqIs W da []) => c_PopTile0 da W hW)
      obtain ⟨tl, htl⟩ : ∃ tl, tl = xs.headD 0 := ⟨_, rfl⟩
      rw [← htl]
      obtain ⟨top, HDt⟩ := HDb.out
      have KS := Lib.hid (fun W (hW : DqAt W d top xs) => c_StealTile d top xs W hW hnb)
      rw [← htl] at KS
      have HDt := Lib.hid HDt
      clear HDb hnb htl
      go_enter Try.func45, Try.ntmps45
      have E := Lib.hid (Below.refl w.heap.size w)
      have Ca0 := Lib.hid ca0
      have Ca1 := Lib.hid ca1
      have Ca2 := Lib.hid ca2
      have Cb0 := Lib.hid cb0
      have Cb1 := Lib.hid cb1
      have Cb2 := Lib.hid cb2
      clear ca0 ca1 ca2 cb0 cb1 cb2
      go_wp2_with (at_builtin; refine stop_in ?_)
      refine stop_out ?_
      refine gen_list ?_
      intro w1 hW
      obtain ⟨hb, hT, hZ⟩ := new2 hW
      clear hW
      replace E := Lib.hid (Ext.trans E.out hb)
      clear hb
      have T := Lib.hid hT
      have lT := T.out.lt
      clear hT
      have Z := Lib.hid hZ
      have lZ := Z.out.lt
      clear hZ
      have O := Lib.hid (own_of_row (n := 0) (B := w.heap.size) (sz := 3) Z.out (by omega) rfl (by decide))
      clear Z lZ
      have S := Lib.hid ((H.out.ext dqR_stab E.out).src dqC_len (fun x us h => h) dqC_one (by decide))
      refine wpList_app (base := w.heap.size) ei_dq rfl (.tmp 10) (.tmp 11) rfl rfl O.out rfl S.out (by omega) E.out.size ?_
      intro v5 w5 hown hg hat
      refine stop_in ?_
      refine stop_out ?_
      obtain ⟨A5, cap5, hv5⟩ := own_form hown
      rw [Nat.zero_add] at hown hv5
      rw [List.nil_append] at hown
      subst hv5
      replace T := Lib.hid (T.out.grownNe O.out (by decide) hg)
      replace E := Lib.hid (own_below E.out O.out hg E.out.size)
      have O5 : Hid (Has w5 w.heap.size 71 3 (.slice A5 ds.length cap5) ds.length (ds.flatMap dqC)) := Lib.hid hown
      clear hown hg hat O S
      replace Hd := Lib.hid (Hd.out.ext E.out)
      replace HDa := Lib.hid (HDa.out.ext E.out)
      replace HDt := Lib.hid (HDt.out.ext E.out)
      replace Ca0 := Lib.hid (Cls.cell E.out Ca0.out)
      replace Ca1 := Lib.hid (Cls.cell E.out Ca1.out)
      replace Ca2 := Lib.hid (Cls.cell E.out Ca2.out)
      replace Cb0 := Lib.hid (Cls.cell E.out Cb0.out)
      replace Cb1 := Lib.hid (Cls.cell E.out Cb1.out)
      replace Cb2 := Lib.hid (Cls.cell E.out Cb2.out)
      have cCa0 := Ca0.out
      have cCa1 := Ca1.out
      have cCa2 := Ca2.out
      have cCb0 := Cb0.out
      have cCb1 := Cb1.out
      have cCb2 := Cb2.out
      have t0 := T.out.cell_of (i := 0) rfl
      have t1 := T.out.cell_of (i := 1) rfl
      have hal : (a : Int) < (ds.length : Int) := by omega
      have hbl : (b : Int) < (ds.length : Int) := by omega
      have ha0 : (0 : Int) ≤ (a : Int) := by omega
      have hb0 : (0 : Int) ≤ (b : Int) := by omega
      obtain ⟨g, rfl, hg1, hg2⟩ := own_at O5.out (by omega)
      have hE5 := E.out.size
      go_wp2_with fail
      clear cCa0 cCa1 cCa2 cCb0 cCb1 cCb2 t0 t1
      refine (KP.out _ HDa.out).mono ?_
      rintro e w6 ⟨rfl, hb⟩
      replace E := Lib.hid (Ext.trans E.out hb)
      replace T := Lib.hid (T.out.ext hb)
      have lT := T.out.lt
      replace O5 := Lib.hid (own_ext O5.out hb)
      replace Hd := Lib.hid (Hd.out.ext hb)
      replace HDa := Lib.hid (HDa.out.ext hb)
      replace HDt := Lib.hid (HDt.out.ext hb)
      replace Ca0 := Lib.hid (Cls.cell hb Ca0.out)
      replace Ca1 := Lib.hid (Cls.cell hb Ca1.out)
      replace Ca2 := Lib.hid (Cls.cell hb Ca2.out)
      replace Cb0 := Lib.hid (Cls.cell hb Cb0.out)
      replace Cb1 := Lib.hid (Cls.cell hb Cb1.out)
      replace Cb2 := Lib.hid (Cls.cell hb Cb2.out)
      clear hb
      have hE6 : g < w6.heap.size := by have := O5.out.lt g rfl; omega
      have cCa0 := Ca0.out
      have cCa1 := Ca1.out
      have cCa2 := Ca2.out
      have cCb0 := Cb0.out
      have cCb1 := Cb1.out
      have cCb2 := Cb2.out
      have t0 := T.out.cell_of (i := 0) rfl
      have t1 := T.out.cell_of (i := 1) rfl
      have hbA6 : bA < w6.heap.size := by omega
      go_wp2_with fail
      clear cCa0 cCa1 cCa2 cCb0 cCb1 cCb2 t0 t1
      first | refine gen_calls ?_ | refine gen_code ?_ | refine gen_list ?_
      intro w7 hW
      obtain ⟨hb, hR7⟩ := new1 hW
      clear hW
      replace E := Lib.hid (Ext.trans E.out hb)
      replace T := Lib.hid (T.out.ext hb)
      have lT := T.out.lt
      replace O5 := Lib.hid (own_ext O5.out hb)
      replace Hd := Lib.hid (Hd.out.ext hb)
      replace HDa := Lib.hid (HDa.out.ext hb)
      replace HDt := Lib.hid (HDt.out.ext hb)
      replace Ca0 := Lib.hid (Cls.cell hb Ca0.out)
      replace Ca1 := Lib.hid (Cls.cell hb Ca1.out)
      replace Ca2 := Lib.hid (Cls.cell hb Ca2.out)
      replace Cb0 := Lib.hid (Cls.cell hb Cb0.out)
      replace Cb1 := Lib.hid (Cls.cell hb Cb1.out)
      replace Cb2 := Lib.hid (Cls.cell hb Cb2.out)
      clear hb
      have R7 := Lib.hid hR7
      have lR7 := R7.out.lt
      clear hR7
      have cCa0 := Ca0.out
      have cCa1 := Ca1.out
      have cCa2 := Ca2.out
      have cCb0 := Cb0.out
      have cCb1 := Cb1.out
      have cCb2 := Cb2.out
      have t0 := T.out.cell_of (i := 0) rfl
      have t1 := T.out.cell_of (i := 1) rfl
      have hn7 : w.heap.size ≤ w6.heap.size := by have := E.out.size; have := lT; omega
      have hgne : g ≠ w6.heap.size := by omega
      go_wp2_with fail
      clear cCa0 cCa1 cCa2 cCb0 cCb1 cCb2 t0 t1
      refine (KS.out _ HDt.out).mono ?_
      rintro e w8 ⟨d', rfl, hd', hb⟩
      replace E := Lib.hid (Ext.trans E.out hb)
      replace T := Lib.hid (T.out.ext hb)
      have lT := T.out.lt
      replace O5 := Lib.hid (own_ext O5.out hb)
      replace Hd := Lib.hid (Hd.out.ext hb)
      replace HDa := Lib.hid (HDa.out.ext hb)
      replace HDt := Lib.hid (HDt.out.ext hb)
      replace Ca0 := Lib.hid (Cls.cell hb Ca0.out)
      replace Ca1 := Lib.hid (Cls.cell hb Ca1.out)
      replace Ca2 := Lib.hid (Cls.cell hb Ca2.out)
      replace Cb0 := Lib.hid (Cls.cell hb Cb0.out)
      replace Cb1 := Lib.hid (Cls.cell hb Cb1.out)
      replace Cb2 := Lib.hid (Cls.cell hb Cb2.out)
      replace R7 := Lib.hid (R7.out.ext hb)
      have lR7 := R7.out.lt
      clear hb
      have cCa0 := Ca0.out
      have cCa1 := Ca1.out
      have cCa2 := Ca2.out
      have cCb0 := Cb0.out
      have cCb1 := Cb1.out
      have cCb2 := Cb2.out
      have t0 := T.out.cell_of (i := 0) rfl
      have t1 := T.out.cell_of (i := 1) rfl
      have HE := Lib.hid hd'
      clear hd'
      obtain ⟨o0, co0⟩ := O5.out.some_at (b * 3) (by omega)
      obtain ⟨o1, co1⟩ := O5.out.some_at (b * 3 + 1) (by omega)
      obtain ⟨o2, co2⟩ := O5.out.some_at (b * 3 + 2) (by omega)
      have f0 := O5.out.frozenAt (b * 3)
      have f1 := O5.out.frozenAt (b * 3 + 1)
      have f2 := O5.out.frozenAt (b * 3 + 2)
      clear cCa0 cCa1 cCa2 cCb0 cCb1 cCb2 t0 t1
      have cCa0 := Ca0.out
      have cCa1 := Ca1.out
      have cCa2 := Ca2.out
      have cCb0 := Cb0.out
      have cCb1 := Cb1.out
      have cCb2 := Cb2.out
      have t0 := T.out.cell_of (i := 0) rfl
      have t1 := T.out.cell_of (i := 1) rfl
      have r0 := R7.out.cell_of (i := 0) rfl
      have zr0 := R7.out.frozen 0
      have r1 := R7.out.cell_of (i := 1) rfl
      have zr1 := R7.out.frozen 1
      have r2 := R7.out.cell_of (i := 2) rfl
      have zr2 := R7.out.frozen 2
      go_wp2_with fail
      obtain ⟨p1, p2, p3, p4⟩ := dq_box (.slice d'.1 16 d'.2.1) (.int .i64 d'.2.2.1) (.int .i64 d'.2.2.2) O5.out Hd.out E.out R7.out hn7 hgne
      obtain ⟨q1, q2, q3⟩ := dq_store p1 p2 (p3 d' _ ⟨top + 1, HE.out⟩) p4 hg1 hb (Below.refl _ _)
      exact bodyPost_ret (v := .tuple #[.slice (some ⟨g, 0, none⟩) ds.length cap5, .int .i64 tl]) (by simp [results, Try.results45, go_sem]) rfl ⟨_, cap5, ds.set b d', by rw [List.length_set], q1, q2, q3⟩
    · have Hp : Hid (popQ qs a b = (qs, -1)) := Lib.hid (by unfold popQ; rw [if_neg hna, if_neg hnb])
      have hga : qs.getD a [] = qs[a]'(by have := Hlq.out; omega) := getD_of (by have := Hlq.out; omega)
      have hgb : qs.getD b [] = qs[b]'(by have := Hlq.out; omega) := getD_of (by have := Hlq.out; omega)
      have hxa : qs[a]'(by have := Hlq.out; omega) = [] := by rw [hga] at hna; exact List.eq_nil_of_length_eq_zero (by omega)
      obtain ⟨cb0, cb1, cb2⟩ := hc b hb
      have hdb := hd.2 b hb (by have := Hlq.out; omega)
      rw [hgb] at hnb
      rw [Hp.out]
      dsimp only
      rw [hxa] at hda
      have HDa := Lib.hid hda
      have HDb := Lib.hid hdb
      generalize hxs : qs[b]'(by have := Hlq.out; omega) = xs at *
      generalize hdv : ds[a] = da at *
      generalize hdw : ds[b] = d at *
      clear hc hga hgb hda hdb hxa hxs hdv hdw Hp hd hna
      have KP := Lib.hid (fun W (hW : DqIs W da []) => c_PopTile0 da W hW)
      have hxs0 : xs = [] := List.eq_nil_of_length_eq_zero (by omega)
      subst hxs0
      have HDt := Lib.hid HDb.out
      have KS := Lib.hid (fun W (hW : DqIs W d []) => c_StealTile0 d W hW)
      clear HDb hnb
      go_enter Try.func45, Try.ntmps45
      have E := Lib.hid (Below.refl w.heap.size w)
      have Ca0 := Lib.hid ca0
      have Ca1 := Lib.hid ca1
      have Ca2 := Lib.hid ca2
      have Cb0 := Lib.hid cb0
      have Cb1 := Lib.hid cb1
      have Cb2 := Lib.hid cb2
      clear ca0 ca1 ca2 cb0 cb1 cb2
      go_wp2_with (at_builtin; refine stop_in ?_)
      refine stop_out ?_
      refine gen_list ?_
      intro w1 hW
      obtain ⟨hb, hT, hZ⟩ := new2 hW
      clear hW
      replace E := Lib.hid (Ext.trans E.out hb)
      clear hb
      have T := Lib.hid hT
      have lT := T.out.lt
      clear hT
      have Z := Lib.hid hZ
      have lZ := Z.out.lt
      clear hZ
      have O := Lib.hid (own_of_row (n := 0) (B := w.heap.size) (sz := 3) Z.out (by omega) rfl (by decide))
      clear Z lZ
      have S := Lib.hid ((H.out.ext dqR_stab E.out).src dqC_len (fun x us h => h) dqC_one (by decide))
      refine wpList_app (base := w.heap.size) ei_dq rfl (.tmp 10) (.tmp 11) rfl rfl O.out rfl S.out (by omega) E.out.size ?_
      intro v5 w5 hown hg hat
      refine stop_in ?_
      refine stop_out ?_
      obtain ⟨A5, cap5, hv5⟩ := own_form hown
      rw [Nat.zero_add] at hown hv5
      rw [List.nil_append] at hown
      subst hv5
      replace T := Lib.hid (T.out.grownNe O.out (by decide) hg)
      replace E := Lib.hid (own_below E.out O.out hg E.out.size)
      have O5 : Hid (Has w5 w.heap.size 71 3 (.slice A5 ds.length cap5) ds.length (ds.flatMap dqC)) := Lib.hid hown
      clear hown hg hat O S
      replace Hd := Lib.hid (Hd.out.ext E.out)
      replace HDa := Lib.hid (HDa.out.ext E.out)
      replace HDt := Lib.hid (HDt.out.ext E.out)
      replace Ca0 := Lib.hid (Cls.cell E.out Ca0.out)
      replace Ca1 := Lib.hid (Cls.cell E.out Ca1.out)
      replace Ca2 := Lib.hid (Cls.cell E.out Ca2.out)
      replace Cb0 := Lib.hid (Cls.cell E.out Cb0.out)
      replace Cb1 := Lib.hid (Cls.cell E.out Cb1.out)
      replace Cb2 := Lib.hid (Cls.cell E.out Cb2.out)
      have cCa0 := Ca0.out
      have cCa1 := Ca1.out
      have cCa2 := Ca2.out
      have cCb0 := Cb0.out
      have cCb1 := Cb1.out
      have cCb2 := Cb2.out
      have t0 := T.out.cell_of (i := 0) rfl
      have t1 := T.out.cell_of (i := 1) rfl
      have hal : (a : Int) < (ds.length : Int) := by omega
      have hbl : (b : Int) < (ds.length : Int) := by omega
      have ha0 : (0 : Int) ≤ (a : Int) := by omega
      have hb0 : (0 : Int) ≤ (b : Int) := by omega
      obtain ⟨g, rfl, hg1, hg2⟩ := own_at O5.out (by omega)
      have hE5 := E.out.size
      go_wp2_with fail
      clear cCa0 cCa1 cCa2 cCb0 cCb1 cCb2 t0 t1
      refine (KP.out _ HDa.out).mono ?_
      rintro e w6 ⟨rfl, hb⟩
      replace E := Lib.hid (Ext.trans E.out hb)
      replace T := Lib.hid (T.out.ext hb)
      have lT := T.out.lt
      replace O5 := Lib.hid (own_ext O5.out hb)
      replace Hd := Lib.hid (Hd.out.ext hb)
      replace HDa := Lib.hid (HDa.out.ext hb)
      replace HDt := Lib.hid (HDt.out.ext hb)
      replace Ca0 := Lib.hid (Cls.cell hb Ca0.out)
      replace Ca1 := Lib.hid (Cls.cell hb Ca1.out)
      replace Ca2 := Lib.hid (Cls.cell hb Ca2.out)
      replace Cb0 := Lib.hid (Cls.cell hb Cb0.out)
      replace Cb1 := Lib.hid (Cls.cell hb Cb1.out)
      replace Cb2 := Lib.hid (Cls.cell hb Cb2.out)
      clear hb
      have hE6 : g < w6.heap.size := by have := O5.out.lt g rfl; omega
      have cCa0 := Ca0.out
      have cCa1 := Ca1.out
      have cCa2 := Ca2.out
      have cCb0 := Cb0.out
      have cCb1 := Cb1.out
      have cCb2 := Cb2.out
      have t0 := T.out.cell_of (i := 0) rfl
      have t1 := T.out.cell_of (i := 1) rfl
      have hbA6 : bA < w6.heap.size := by omega
      go_wp2_with fail
      clear cCa0 cCa1 cCa2 cCb0 cCb1 cCb2 t0 t1
      first | refine gen_calls ?_ | refine gen_code ?_ | refine gen_list ?_
      intro w7 hW
      obtain ⟨hb, hR7⟩ := new1 hW
      clear hW
      replace E := Lib.hid (Ext.trans E.out hb)
      replace T := Lib.hid (T.out.ext hb)
      have lT := T.out.lt
      replace O5 := Lib.hid (own_ext O5.out hb)
      replace Hd := Lib.hid (Hd.out.ext hb)
      replace HDa := Lib.hid (HDa.out.ext hb)
      replace HDt := Lib.hid (HDt.out.ext hb)
      replace Ca0 := Lib.hid (Cls.cell hb Ca0.out)
      replace Ca1 := Lib.hid (Cls.cell hb Ca1.out)
      replace Ca2 := Lib.hid (Cls.cell hb Ca2.out)
      replace Cb0 := Lib.hid (Cls.cell hb Cb0.out)
      replace Cb1 := Lib.hid (Cls.cell hb Cb1.out)
      replace Cb2 := Lib.hid (Cls.cell hb Cb2.out)
      clear hb
      have R7 := Lib.hid hR7
      have lR7 := R7.out.lt
      clear hR7
      have cCa0 := Ca0.out
      have cCa1 := Ca1.out
      have cCa2 := Ca2.out
      have cCb0 := Cb0.out
      have cCb1 := Cb1.out
      have cCb2 := Cb2.out
      have t0 := T.out.cell_of (i := 0) rfl
      have t1 := T.out.cell_of (i := 1) rfl
      have hn7 : w.heap.size ≤ w6.heap.size := by have := E.out.size; have := lT; omega
      have hgne : g ≠ w6.heap.size := by omega
      go_wp2_with fail
      clear cCa0 cCa1 cCa2 cCb0 cCb1 cCb2 t0 t1
      refine (KS.out _ HDt.out).mono ?_
      rintro e w8 ⟨rfl, hb⟩
      replace E := Lib.hid (Ext.trans E.out hb)
      replace T := Lib.hid (T.out.ext hb)
      have lT := T.out.lt
      replace O5 := Lib.hid (own_ext O5.out hb)
      replace Hd := Lib.hid (Hd.out.ext hb)
      replace HDa := Lib.hid (HDa.out.ext hb)
      replace HDt := Lib.hid (HDt.out.ext hb)
      replace Ca0 := Lib.hid (Cls.cell hb Ca0.out)
      replace Ca1 := Lib.hid (Cls.cell hb Ca1.out)
      replace Ca2 := Lib.hid (Cls.cell hb Ca2.out)
      replace Cb0 := Lib.hid (Cls.cell hb Cb0.out)
      replace Cb1 := Lib.hid (Cls.cell hb Cb1.out)
      replace Cb2 := Lib.hid (Cls.cell hb Cb2.out)
      replace R7 := Lib.hid (R7.out.ext hb)
      have lR7 := R7.out.lt
      clear hb
      have cCa0 := Ca0.out
      have cCa1 := Ca1.out
      have cCa2 := Ca2.out
      have cCb0 := Cb0.out
      have cCb1 := Cb1.out
      have cCb2 := Cb2.out
      have t0 := T.out.cell_of (i := 0) rfl
      have t1 := T.out.cell_of (i := 1) rfl
      clear cCa0 cCa1 cCa2 cCb0 cCb1 cCb2 t0 t1
      have cCa0 := Ca0.out
      have cCa1 := Ca1.out
      have cCa2 := Ca2.out
      have cCb0 := Cb0.out
      have cCb1 := Cb1.out
      have cCb2 := Cb2.out
      have t0 := T.out.cell_of (i := 0) rfl
      have t1 := T.out.cell_of (i := 1) rfl
      have r0 := R7.out.cell_of (i := 0) rfl
      have zr0 := R7.out.frozen 0
      have r1 := R7.out.cell_of (i := 1) rfl
      have zr1 := R7.out.frozen 1
      have r2 := R7.out.cell_of (i := 2) rfl
      have zr2 := R7.out.frozen 2
      go_wp2_with fail
      obtain ⟨p1, p2, p3, p4⟩ := dq_box (.slice none 0 0) (.int .i64 0) (.int .i64 0) O5.out Hd.out E.out R7.out hn7 hgne
      exact bodyPost_ret (v := .tuple #[.slice (some ⟨g, 0, none⟩) ds.length cap5, .int .i64 (-1)]) (by simp [results, Try.results45, go_sem]) rfl ⟨_, cap5, ds, rfl, p1, p2, p4⟩
end Go.Proofs.Ytnmnomhoghkdjaa
