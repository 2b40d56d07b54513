/-
  Pictures as arguments, and marked: numbers change, and nothing else.
-/
import Derived.Test.YtagmnbphbakikaaGreatMg20
import Derived.Test.YtagmnbphbakikaaGreatFillO
import Derived.Test.YtagmnbphbakikaaGreatMarkW
namespace Go.Proofs.YtagmnbphbakikaaGreat
open Go Go.RowKit Go.ChangeShapes Go.WideShapes Go.ChangeAt Go.Deep Reg
attribute [local go_sem] calmAt calmUpon
theorem opens_co {P : Program} {t : TypeId} (h : Opens P t bxR) : Opens P t coR := h.mono fun w x us k => ⟨x, k⟩
/-- What is read as a picture. -/
def frR : World → Int × Int × List Bx4 → List Value → Prop := fun w x us => ∃ A cap, us = [.int .i64 x.1, .int .i64 x.2.1, .slice A x.2.2.length cap] ∧ Cos w A x.2.2 ∧ SlOk A x.2.2.length cap
theorem opens_fr {P : Program} {t : TypeId} (h : Opens P t (tripR intR intR (slR coR 4))) : Opens P t frR :=
  h.mono fun w x us ⟨u0, u1, u2, r0, r1, r2, e⟩ => by
    obtain ⟨A, cap, e2, p1, _, p2, p3, p4⟩ := r2
    have e0 : u0 = [.int .i64 x.1] := r0
    have e1 : u1 = [.int .i64 x.2.1] := r1
    subst e0 e1 e2
    exact ⟨x, A, cap, e, p1, ⟨p4, p2, p3⟩⟩
theorem tup_inj {a b p d : Value} (h : Value.tuple #[a, b] = .tuple #[p, d]) : a = p ∧ b = d := by simpa using h
theorem Row.mkd {B1 B2 b : Nat} {w w' : World} {e : TypeId} {cs : List Value} (h : Row w b e cs) (hm : Mk B1 B2 w w') (hB : B2 ≤ b) : Row w' b e cs := (hm.block b h.lt hB).trans h
/-- A slice of numbers, carried along. -/
def NumK (B1 B2 sz : Nat) (w : World) (e : TypeId) (v : Value) (n : Nat) : Prop := (B1 ≤ B2 ∧ B2 ≤ w.heap.size) ∧ NumS B1 B2 sz w e v n
theorem NumK.ext {B1 B2 sz n : Nat} {w w' : World} {e : TypeId} {v : Value} (h : NumK B1 B2 sz w e v n) (hx : Ext w w') : NumK B1 B2 sz w' e v n := ⟨⟨h.1.1, Nat.le_trans h.1.2 hx.size⟩, h.2.mk (Mk.ext hx (Nat.le_trans h.1.1 h.1.2))⟩
theorem NumK.mkd {B1 B2 sz n : Nat} {w w' : World} {e : TypeId} {v : Value} (h : NumK B1 B2 sz w e v n) (hm : Mk B1 B2 w w') : NumK B1 B2 sz w' e v n := ⟨⟨h.1.1, Nat.le_trans h.1.2 hm.below.size⟩, h.2.mk hm⟩
theorem FlsK.mkd {B1 B2 n : Nat} {w w' : World} {v : Value} (h : FlsK B1 B2 w v n) (hm : Mk B1 B2 w w') : FlsK B1 B2 w' v n := ⟨⟨h.1.1, Nat.le_trans h.1.2 hm.below.size⟩, h.2.mk hm⟩
theorem bxC_int (cs : List Bx4) : ∀ x ∈ cs.flatMap bxC, IntV x := by
  intro x hx
  obtain ⟨p, _, hp⟩ := List.mem_flatMap.1 hx
  simp only [bxC, List.mem_cons, List.not_mem_nil, or_false] at hp
  rcases hp with rfl | rfl | rfl | rfl <;> exact ⟨_, rfl⟩
theorem pts_rowF {w : World} {b : Nat} {e : TypeId} {ss : List Pt} (h : Row w b e (ss.flatMap ptC)) : Pts w (some ⟨b, 0, none⟩) ss := Row.in_ (rest := []) (enc := ptC) ptC_len (by simpa using h) (fun _ _ => rfl)
set_option maxRecDepth 100000 in
set_option maxHeartbeats 2000000 in
theorem c_markTurnW {w : World} {B1 B2 : Nat} {A : Option Addr} {n cap : Nat} (h : NumS B1 B2 2 w 101 (.slice A n cap) n) (k : Int) (h0 : 0 ≤ k) (h1 : k ≤ 4000000000000000000) :
    Calls Tryz.prog 23 #[.slice A n cap, .int .i64 k] w fun e w' => e = .returned (.int .i64 (k + 2 * n)) ∧ Mk B1 B2 w w' := by
  have hn := h.1
  have H := Lib.hid h
  clear h
  go_enter Tryz.func23, Tryz.ntmps23
  go_wp2
  go_loopw [1, 5] (fun kk i wr => ∃ j : Nat, j ≤ n ∧ i = .int .i64 j ∧ kk = .int .i64 (k + 2 * j) ∧ Mk B1 B2 w wr) (fun _ i _ => n - (intOf i).toNat)
  case atStart => exact ⟨0, Nat.zero_le _, rfl, by simp, Mk.refl _ _ _⟩
  case round =>
    obtain ⟨j, hj, rfl, rfl, hmk⟩ := hrel
    have Q := Lib.hid hmk
    clear hmk
    by_cases hlt : j < n
    · rcases (H.out.mk Q.out).2 with ⟨_, he⟩ | ⟨g, cap', he, hr⟩
      · omega
      · injection he with hA _ hc
        subst hA hc
        obtain ⟨⟨z0, c0⟩, f0, m0⟩ := hr.at (j := j * 2) (by omega)
        have hr1 := hr.mk (m0 (k + 2 * j))
        obtain ⟨_, _, m1⟩ := hr1.at (j := j * 2 + 1) (by omega)
        have Q2 := Lib.hid ((Q.out.trans (m0 _)).trans (m1 (k + 2 * j + 1)))
        obtain ⟨⟨z1, c1⟩, f1, _⟩ := hr.at (j := j * 2 + 1) (by omega)
        clear m0 m1 hr hr1
        go_wp2
        go_roundw
        case rel => exact ⟨j + 1, by omega, by go_num, by congr 1; push_cast; omega, Q2.out⟩
        case measure => simp [intOf]; omega
    · obtain rfl : j = n := by omega
      go_wp2
      go_ret
      exact ⟨rfl, Q.out⟩
set_option maxRecDepth 100000 in
set_option maxHeartbeats 2000000 in
theorem c_markColorW {w : World} {B1 B2 : Nat} {A : Option Addr} {n cap : Nat} (h : NumS B1 B2 4 w 118 (.slice A n cap) n) (k : Int) (h0 : 0 ≤ k) (h1 : k ≤ 4000000000000000000) :
    Calls Tryz.prog 49 #[.slice A n cap, .int .i64 k] w fun e w' => e = .returned (.int .i64 (k + 4 * n)) ∧ Mk B1 B2 w w' := by
  have hn := h.1
  have H := Lib.hid h
  clear h
  go_enter Tryz.func49, Tryz.ntmps49
  go_wp2
  go_loopw [1, 5] (fun kk i wr => ∃ j : Nat, j ≤ n ∧ i = .int .i64 j ∧ kk = .int .i64 (k + 4 * j) ∧ Mk B1 B2 w wr) (fun _ i _ => n - (intOf i).toNat)
  case atStart => exact ⟨0, Nat.zero_le _, rfl, by simp, Mk.refl _ _ _⟩
  case round =>
    obtain ⟨j, hj, rfl, rfl, hmk⟩ := hrel
    have Q := Lib.hid hmk
    clear hmk
    by_cases hlt : j < n
    · rcases (H.out.mk Q.out).2 with ⟨_, he⟩ | ⟨g, cap', he, hr⟩
      · omega
      · injection he with hA _ hc
        subst hA hc
        obtain ⟨⟨z0, c0⟩, f0, m0⟩ := hr.at (j := j * 4) (by omega)
        have hr1 := hr.mk (m0 (k + 4 * j))
        obtain ⟨_, _, m1⟩ := hr1.at (j := j * 4 + 1) (by omega)
        have hr2 := hr1.mk (m1 (k + 4 * j + 1))
        obtain ⟨_, _, m2⟩ := hr2.at (j := j * 4 + 2) (by omega)
        have hr3 := hr2.mk (m2 (k + 4 * j + 1 + 1))
        obtain ⟨_, _, m3⟩ := hr3.at (j := j * 4 + 3) (by omega)
        have Q2 := Lib.hid ((((Q.out.trans (m0 _)).trans (m1 _)).trans (m2 _)).trans (m3 (k + 4 * j + 1 + 1 + 1)))
        obtain ⟨⟨z1, c1⟩, f1, _⟩ := hr.at (j := j * 4 + 1) (by omega)
        obtain ⟨⟨z2, c2⟩, f2, _⟩ := hr.at (j := j * 4 + 2) (by omega)
        obtain ⟨⟨z3, c3⟩, f3, _⟩ := hr.at (j := j * 4 + 3) (by omega)
        clear m0 m1 m2 m3 hr hr1 hr2 hr3
        go_wp2
        go_roundw
        case rel => exact ⟨j + 1, by omega, by go_num, by congr 1; push_cast; omega, Q2.out⟩
        case measure => simp [intOf]; omega
    · obtain rfl : j = n := by omega
      go_wp2
      go_ret
      exact ⟨rfl, Q.out⟩
theorem c_markFrameW {w : World} {B1 B2 : Nat} (x y : Int) {A : Option Addr} {n cap : Nat} (hK : NumK B1 B2 4 w 118 (.slice A n cap) n) (k : Int) (h0 : 0 ≤ k) (h1 : k ≤ 100000000) :
    Calls Tryz.prog 16 #[frV x y A n cap, .int .i64 k] w fun e w' => e = .returned (.int .i64 (k + 4 * n)) ∧ Mk B1 B2 w w' := by
  have h := hK.2
  have hB : B1 ≤ w.heap.size := Nat.le_trans hK.1.1 hK.1.2
  have hn := h.1
  have H := Lib.hid h
  have E := Lib.hid (Ext.refl w)
  clear h hK
  go_enter Tryz.func16, Tryz.ntmps16
  go_wp2_with fail
  first | refine gen_calls ?_ | refine gen_code ?_ | refine gen_list ?_
  intro w0 hW
  obtain ⟨hb, hR0⟩ := new1 hW
  clear hW
  replace E := Lib.hid (Ext.trans E.out hb)
  clear hb
  have R0 := Lib.hid hR0
  have lR0 := R0.out.lt
  clear hR0
  have c0 := R0.out.cell_of (i := 0) rfl
  have c1 := R0.out.cell_of (i := 1) rfl
  have c2 := R0.out.cell_of (i := 2) rfl
  go_wp2_with fail
  clear c0 c1 c2
  refine (c_markColorW (H.out.mk (Mk.ext E.out hB)) k h0 (by omega)).mono ?_
  rintro e w1 ⟨rfl, hm⟩
  have Q := Lib.hid ((Mk.ext E.out hB).trans hm)
  clear hm
  go_wp2
  go_ret
  exact ⟨rfl, Q.out⟩
end Go.Proofs.YtagmnbphbakikaaGreat
