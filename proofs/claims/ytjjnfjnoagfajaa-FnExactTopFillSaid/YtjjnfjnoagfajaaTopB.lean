/-
  slices.Backward at fills.
-/
import Derived.Test.YtjjnfjnoagfajaaBack
import Derived.Test.YtjjnfjnoagfajaaMg8
import Derived.Test.YtjjnfjnoagfajaaFillZ
namespace Go.Proofs.Ytjjnfjnoagfajaa
open Go Go.RowKit Reg
attribute [local go_sem] calmAt calmUpon Oper.semAt_some
/-- The slices of a fill: where its verbs lie and how many may be put there, its stops as well. -/
abbrev SlD := Option Addr × Nat × Option Addr × Nat
abbrev flvG (x : FlD × SlD) : Value := flV x.2.1 x.1.1.length x.2.2.1 x.1.2.1 x.1.2.2.1 x.1.2.2.2.1 x.2.2.2.1 x.1.2.2.2.2.length x.2.2.2.2
def flG : World → FlD × SlD → List Value → Prop := fun w x us => us = flC x.2.1 x.1.1.length x.2.2.1 x.1.2.1 x.1.2.2.1 x.1.2.2.2.1 x.2.2.2.1 x.1.2.2.2.2.length x.2.2.2.2 ∧ VbK w x.2.1 x.1.1
theorem flG_stab : Stab flG := by
  rintro w w' x us ⟨e, h1⟩ hx
  exact ⟨e, h1.ext verbK_stab hx⟩
abbrev FlsG (w : World) (A : Option Addr) (gs : List (FlD × SlD)) : Prop := In flG 7 w A gs
theorem verbK_keptO {w w' : World} {row : Option Nat} {v : Vb} {us : List Value} (hg : w.grownBy w' row) (hr : NoCells w row) (h : verbK w v us) : verbK w' v us := by
  obtain ⟨A, cap, h1, h2, h3⟩ := h
  exact ⟨A, cap, h1, In.keptO (R := ptR) (w := w) (w' := w') (fun _ _ h => h) h2 hg hr, h3⟩
theorem FlsG.keptO {w w' : World} {row : Option Nat} {A : Option Addr} {gs : List (FlD × SlD)} (h : FlsG w A gs) (hg : w.grownBy w' row) (hr : NoCells w row) : FlsG w' A gs :=
  In.keptO (R := flG) (w := w) (w' := w') (fun _ _ h => ⟨h.1, In.keptO (R := verbK) (w := w) (w' := w') (fun _ _ h => verbK_keptO hg hr h) h.2 hg hr⟩) h hg hr
theorem In.flG {w : World} {A : Option Addr} {gs : List (FlD × SlD)} (h : FlsG w A gs) (hn : 0 < gs.length) : ∃ b off, A = some ⟨b, off, none⟩ ∧
    ∀ (k : Nat) (h : k < gs.length), VbK w gs[k].2.1 gs[k].1.1 ∧
      w.cell? ⟨b, off + k * 7, none⟩ = some (.slice gs[k].2.1 gs[k].1.1.length gs[k].2.2.1) ∧ w.cell? ⟨b, off + k * 7 + 1, none⟩ = some (.int .i64 gs[k].1.2.1) ∧ w.cell? ⟨b, off + k * 7 + 2, none⟩ = some (.int .i64 gs[k].1.2.2.1.1) ∧ w.cell? ⟨b, off + k * 7 + 3, none⟩ = some (.int .i64 gs[k].1.2.2.1.2) ∧
      w.cell? ⟨b, off + k * 7 + 4, none⟩ = some (.int .i64 gs[k].1.2.2.2.1.1) ∧ w.cell? ⟨b, off + k * 7 + 5, none⟩ = some (.int .i64 gs[k].1.2.2.2.1.2) ∧ w.cell? ⟨b, off + k * 7 + 6, none⟩ = some (.slice gs[k].2.2.2.1 gs[k].1.2.2.2.2.length gs[k].2.2.2.2) := by
  obtain ⟨b, off, hA, hc⟩ := h hn
  refine ⟨b, off, hA, fun k hk => ?_⟩
  obtain ⟨us, ⟨e, h1⟩, _, h5⟩ := hc k hk
  subst e
  exact ⟨h1, h5 0 _ rfl, h5 1 _ rfl, h5 2 _ rfl, h5 3 _ rfl, h5 4 _ rfl, h5 5 _ rfl, h5 6 _ rfl⟩
/-- The slices of the fills, named. -/
theorem fls_fix {w : World} {A : Option Addr} {fs : List FlD} (h : Fls w A fs) : ∃ gs : List (FlD × SlD), gs.map Prod.fst = fs ∧ FlsG w A gs := by
  by_cases hn : 0 < fs.length
  · obtain ⟨b, off, hA, hc⟩ := h hn
    have hc' : ∀ k, ∃ g : SlD, ∀ (hk : k < fs.length), VbK w g.1 fs[k].1 ∧ ∀ (j : Nat) u, (flC g.1 fs[k].1.length g.2.1 fs[k].2.1 fs[k].2.2.1 fs[k].2.2.2.1 g.2.2.1 fs[k].2.2.2.2.length g.2.2.2)[j]? = some u → w.cell? ⟨b, off + k * 7 + j, none⟩ = some u := by
      intro k
      by_cases hk : k < fs.length
      · obtain ⟨us, ⟨A1, c1, A2, c2, e, h1, _, _, _⟩, _, h5⟩ := hc k hk
        subst e
        exact ⟨(A1, c1, A2, c2), fun _ => ⟨h1, h5⟩⟩
      · exact ⟨(none, 0, none, 0), fun h => absurd h hk⟩
    obtain ⟨G, hG⟩ := Classical.axiomOfChoice hc'
    refine ⟨fs.mapIdx fun k x => (x, G k), ?_, fun _ => ⟨b, off, hA, fun k hk => ?_⟩⟩
    · apply List.ext_getElem
      · simp
      · intro i h1 h2; simp
    · have hk' : k < fs.length := by simpa using hk
      have e : (fs.mapIdx fun k x => (x, G k))[k] = (fs[k], G k) := by simp
      rw [e]
      obtain ⟨g1, g2⟩ := hG k hk'
      exact ⟨_, ⟨rfl, g1⟩, rfl, g2⟩
  · refine ⟨[], ?_, fun h => absurd h (by simp)⟩
    have : fs = [] := by
      cases fs with
      | nil => rfl
      | cons a l => simp at hn
    rw [this]; rfl
def BkF (Bs : Nat) (A : Option Addr) (cap : Nat) (gs : List (FlD × SlD)) (W : World) : Prop := W.cell? ⟨Bs, 0, none⟩ = some (.slice A gs.length cap) ∧ FlsG W A gs
def BkFK (Bs : Nat) (A : Option Addr) (cap : Nat) (gs : List (FlD × SlD)) (W W' : World) : Prop := BkF Bs A cap gs W → BkF Bs A cap gs W'
theorem BkF.put {Bs cap l : Nat} {A : Option Addr} {gs : List (FlD × SlD)} {W : World} {o o' : Obj} (hB : BkF Bs A cap gs W) (ho : W.heap[l]? = some o) (hc : o.isCells = false) : BkF Bs A cap gs (W.putObj l o') :=
  ⟨cell_keptO hB.1 (grownBy_putObj' W l o') (noCells_one ho hc), FlsG.keptO hB.2 (grownBy_putObj' W l o') (noCells_one ho hc)⟩
abbrev bfE {gs : List (FlD × SlD)} (x : Fin gs.length) : Array Value := #[.int .i64 ((x : Nat) : Int), flvG gs[x]]
/-- The numbers below n, from the last. -/
def dnF (n : Nat) : List (Fin n) := List.ofFn (Fin.rev : Fin n → Fin n)
theorem dnF_len (n : Nat) : (dnF n).length = n := by simp [dnF]
theorem dnF_get {n k : Nat} (h : k < (dnF n).length) : ((dnF n)[k] : Nat) = n - 1 - k := by
  simp [dnF, Fin.rev]; omega
theorem dnF_take {n j m : Nat} (h : j + (m + 1) = n) : (dnF n).take (j + 1) = (dnF n).take j ++ [⟨m, by omega⟩] := by
  have hj : j < (dnF n).length := by rw [dnF_len]; omega
  rw [List.take_succ_eq_append_getElem hj]
  congr 2
  apply Fin.ext
  rw [dnF_get]
  dsimp only
  omega
set_option maxRecDepth 100000 in
set_option maxHeartbeats 2000000 in
theorem c_back1F (n : Nat) (hn : 1 ≤ n) (l Bs cap : Nat) (A : Option Addr) (gs : List (FlD × SlD)) (hr : gs.length ≤ 1000000) (J Jx : List (Fin gs.length) → World → Prop)
    (hY : ∀ pre x W, J pre W → pre.length < gs.length → YieldAt Fence.wide (n - 1) Try.prog l (bfE x) W fun e W' =>
      (e = .returned (.bool true) ∧ J (pre ++ [x]) W' ∧ BkFK Bs A cap gs W W') ∨ (e = .returned (.bool false) ∧ Jx (pre ++ [x]) W'))
    (W : World) (hB : BkF Bs A cap gs W) (h0 : J [] W) :
    CallsIn Fence.wide n Try.prog 74 #[.func (.yield l) #[] #[], .pointer (some ⟨Bs, 0, none⟩)] W fun e W' => (∃ v, e = .returned v) ∧
      ((∃ ys, ys = dnF gs.length ∧ J ys W') ∨ (∃ pre, (∃ j, j < gs.length ∧ pre = (dnF gs.length).take (j + 1)) ∧ Jx pre W')) := by
  refine callsIn_of_wp Try.func74 rfl trivial ?_ rfl
  simp only [Try.ntmps74, List.size_toArray, List.length_cons, List.length_nil, Nat.reduceAdd, Nat.reduceSub, Array.replicate_succ, Array.replicate_zero, List.push_toArray, List.append_toArray, List.nil_append, List.cons_append]
  have HB := Lib.hid hB
  have hcB := hB.1
  have g1 : IntKind.i64.wrap ((gs.length : Int) - 1) = (gs.length : Int) - 1 := IntWalk.i64_in _ (by omega)
  clear hB
  gi_wp2
  clear hcB g1
  gi_loopw [3] (fun i wr => ∃ j m : Nat, j + m = gs.length ∧ i = .int .i64 ((m : Int) - 1) ∧ J ((dnF gs.length).take j) wr ∧ BkF Bs A cap gs wr)
    (fun i _ => (intOf i + 1).toNat)
  case atStart => exact ⟨0, gs.length, by omega, rfl, h0, HB.out⟩
  case round =>
    obtain ⟨j, m, hjm, rfl, hJs, hBk⟩ := hrel
    have HBk := Lib.hid hBk
    cases m with
    | zero =>
      have hj : j = gs.length := by omega
      clear hBk
      gi_wp2
      go_end0
      exact ⟨⟨_, rfl⟩, .inl ⟨_, rfl, by rw [hj, List.take_of_length_le (by rw [dnF_len]; omega)] at hJs; exact hJs⟩⟩
    | succ m =>
      have e : ((m + 1 : Nat) : Int) - 1 = (m : Int) := by omega
      rw [e]
      clear e
      have hmr : m < gs.length := by omega
      have hcI : decide ((0 : Int) ≤ (m : Int)) = true := by simp
      have hmI : (m : Int) < (gs.length : Int) := by omega
      have HJ := Lib.hid hJs
      have Hl := Lib.hid (dnF_take hjm)
      obtain ⟨fn, tmps, assign, body, hy, hR⟩ := hY _ ⟨m, hmr⟩ wr hJs (by rw [List.length_take, dnF_len]; omega)
      dsimp only [bfE, flvG] at hy
      rw [← Hl.out] at hR
      obtain ⟨b, off, hA, hc⟩ := hBk.2.flG (by omega)
      have hcB := hBk.1
      subst hA
      obtain ⟨_, x0, x1, x2, x3, x4, x5, x6⟩ := hc m hmr
      have g1 : IntKind.i64.wrap ((m : Int) - 1) = (m : Int) - 1 := IntWalk.i64_in _ (by omega)
      have hmI2 : (0 : Int) ≤ (m : Int) := by omega
      have hx : gs[(⟨m, hmr⟩ : Fin gs.length)] = gs[m] := rfl
      rw [hx] at hy
      generalize gs[m] = x at *
      obtain ⟨⟨vs, q, f, t, ss⟩, A1, c1, A2, c2⟩ := x
      dsimp only [flV] at x0 x1 x2 x3 x4 x5 x6 hy
      clear hBk hc hJs hx
      gi_wp2
      refine hR.mono ?_
      rintro e W3 (⟨rfl, hJ3, hk3⟩ | ⟨rfl, hJx3⟩)
      · have HB3 := Lib.hid (hk3 HBk.out)
        have HJ3 := Lib.hid hJ3
        clear hk3 hJ3
        gi_wp2
        go_roundw
        case rel => exact ⟨j + 1, m, by omega, by go_num, HJ3.out, HB3.out⟩
        case measure => simp [intOf]
      · have HJx := Lib.hid hJx3
        clear hJx3
        gi_wp2
        refine bodyPost_ret (results_none rfl _ _ _) rfl ?_
        exact ⟨⟨_, rfl⟩, .inr ⟨_, ⟨j, by omega, rfl⟩, HJx.out⟩⟩
theorem c_BackwardF (A : Option Addr) (n cap : Nat) (w : World) :
    Calls Try.prog 42 #[.slice A n cap] w fun e w' => e = .returned (.func (.func 74) #[] #[.pointer (some ⟨w.heap.size, 0, none⟩)]) ∧ w' = w.alloc (.cells #[.slice A n cap] 27) := by
  go_enter Try.func42, Try.ntmps42
  go_wp2
  go_ret
  exact ⟨rfl, rfl⟩
theorem backF_stops (n : Nat) (hn : 1 ≤ n) (Bs cap : Nat) (A : Option Addr) (gs : List (FlD × SlD)) (hr : gs.length ≤ 1000000) (w : World) (hB : BkF Bs A cap gs w) :
    SeqStopsK Fence.wide n Try.prog 74 #[.pointer (some ⟨Bs, 0, none⟩)] bfE (BkFK Bs A cap gs) (fun ys => ys = dnF gs.length) (fun pre => ∃ j, j < gs.length ∧ pre = (dnF gs.length).take (j + 1)) gs.length w := fun l J Jx W hW _ _ hY h0 => by
  have hB' : BkF Bs A cap gs W := ⟨(hW.cell (p := ⟨Bs, 0, none⟩) (cell_lt hB.1)).trans hB.1, hB.2.ext flG_stab hW⟩
  refine (c_back1F n hn l Bs cap A gs hr J Jx hY W hB' h0).mono ?_
  rintro e W' ⟨he, ⟨ys, hy, hj⟩ | ⟨pre, hp, hj⟩⟩
  · exact ⟨he, .inl ⟨ys, hy, hj⟩⟩
  · exact ⟨he, .inr ⟨pre, hp, hj⟩⟩
end Go.Proofs.Ytjjnfjnoagfajaa
