/-
  Slice expressions, appending within a row, clearing: run equations. Nothing of a program.
-/
import Derived.Test.YteknlifgejpjfaaLib
import Derived.Laws.CopyRow
namespace Go.Proofs.Yteknlifgejpjfaa
open Go Go.RowKit Reg

section
variable {P : Program} {t e : TypeId} {z : Value} {zl : List Value} {bytes : Nat}

theorem addr_add (b o k : Nat) : (⟨b, o, none⟩ : Addr).add k = ⟨b, o + k, none⟩ := by
  unfold Addr.add; split
  · rename_i h; subst h; rfl
  · rfl

/-- The address that a slice expression leads to, or any where nothing is left. -/
def subA (A : Option Addr) (cap lo sz : Nat) : Option Addr := if cap = lo then A else A.map (·.add (lo * sz))
theorem subA_none (cap lo sz : Nat) : subA none cap lo sz = none := by unfold subA; split <;> rfl
theorem subA_some (b o cap lo sz : Nat) : ∃ o', subA (some ⟨b, o, none⟩) cap lo sz = some ⟨b, o', none⟩ ∧ (cap ≠ lo → o' = o + lo * sz) := by
  unfold subA
  split
  · exact ⟨o, rfl, fun h => absurd ‹_› h⟩
  · exact ⟨o + lo * sz, by simp [addr_add], fun _ => rfl⟩

/-- s[lo:hi] -/
theorem run_slice2 (E : EI P t e z zl bytes) (A : Option Addr) (n cap lo hi : Nat) (l h : Int) (hl : l = (lo : Int)) (hh : h = (hi : Int)) (h1 : lo ≤ hi) (h2 : hi ≤ cap) (w : World) :
    (Instr.slice t (.slice A n cap) (some (.int .i64 l)) (some (.int .i64 h)) none).run P w = .ok (.slice (subA A cap lo zl.length) (hi - lo) (cap - lo)) w := by
  subst hl hh
  obtain ⟨i, q1, q2, q3, q4⟩ := E.info
  simp [Instr.slice, run_underlying E.und, Instr.sliceBounds, Instr.sliceBound, asIntOf, h1, h2, sizeOf, typeInfo, q1, q3, subA]
theorem run_slice_hi (E : EI P t e z zl bytes) (A : Option Addr) (n cap hi : Nat) (h : Int) (hh : h = (hi : Int)) (h2 : hi ≤ cap) (w : World) :
    (Instr.slice t (.slice A n cap) none (some (.int .i64 h)) none).run P w = .ok (.slice A hi cap) w := by
  subst hh
  obtain ⟨i, q1, q2, q3, q4⟩ := E.info
  have e3 : (A.map fun x => x.add 0) = A := by cases A <;> simp [Addr.add]
  simp [Instr.slice, run_underlying E.und, Instr.sliceBounds, Instr.sliceBound, asIntOf, h2, sizeOf, typeInfo, q1, e3]
theorem run_slice_lo (E : EI P t e z zl bytes) (A : Option Addr) (n cap lo : Nat) (l : Int) (hl : l = (lo : Int)) (h1 : lo ≤ n) (w : World) :
    (Instr.slice t (.slice A n cap) (some (.int .i64 l)) none none).run P w = .ok (.slice (subA A cap lo zl.length) (n - lo) (cap - lo)) w := by
  subst hl
  obtain ⟨i, q1, q2, q3, q4⟩ := E.info
  simp [Instr.slice, run_underlying E.und, Instr.sliceBounds, Instr.sliceBound, asIntOf, h1, sizeOf, typeInfo, q1, q3, subA]
/-- s[lo:hi:max] -/
theorem run_slice3 (E : EI P t e z zl bytes) (A : Option Addr) (n cap lo hi mx : Nat) (l h m : Int) (hl : l = (lo : Int)) (hh : h = (hi : Int)) (hm : m = (mx : Int)) (h1 : lo ≤ hi) (h2 : hi ≤ mx) (h3 : mx ≤ cap) (w : World) :
    (Instr.slice t (.slice A n cap) (some (.int .i64 l)) (some (.int .i64 h)) (some (.int .i64 m))).run P w = .ok (.slice (subA A mx lo zl.length) (hi - lo) (mx - lo)) w := by
  subst hl hh hm
  obtain ⟨i, q1, q2, q3, q4⟩ := E.info
  simp [Instr.slice, run_underlying E.und, Instr.sliceBounds, Instr.sliceBound, asIntOf, h1, h2, h3, sizeOf, typeInfo, q1, q3, subA]

/-- A part of a slice that reads as a list. -/
theorem In.sub {α : Type} {R : World → α → List Value → Prop} {sz : Nat} {w : World} {A : Option Addr} {xs : List α} (h : In R sz w A xs) {cap lo hi : Nat} (h1 : lo ≤ hi) (h2 : hi ≤ xs.length) (h3 : xs.length ≤ cap) :
    In R sz w (subA A cap lo sz) ((xs.take hi).drop lo) := by
  intro hn
  simp only [List.length_drop, List.length_take] at hn
  obtain ⟨b, off, rfl, hc⟩ := h (by omega)
  obtain ⟨o', hs, ho⟩ := subA_some b off cap lo sz
  have ho := ho (by omega)
  subst ho
  refine ⟨b, off + lo * sz, hs, fun k hk => ?_⟩
  simp only [List.length_drop, List.length_take] at hk
  obtain ⟨us, q1, q2, q3⟩ := hc (lo + k) (by omega)
  refine ⟨us, by simpa using q1, q2, fun j u hu => ?_⟩
  have := q3 j u hu
  rw [Nat.add_mul] at this
  rw [show off + lo * sz + k * sz + j = off + (lo * sz + k * sz) + j by omega]
  exact this
theorem In.take {α : Type} {R : World → α → List Value → Prop} {sz : Nat} {w : World} {A : Option Addr} {xs : List α} (h : In R sz w A xs) (k : Nat) : In R sz w A (xs.take k) := by
  intro hn
  simp only [List.length_take] at hn
  obtain ⟨b, off, rfl, hc⟩ := h (by omega)
  refine ⟨b, off, rfl, fun j hj => ?_⟩
  simp only [List.length_take] at hj
  obtain ⟨us, q1, q2, q3⟩ := hc j (by omega)
  exact ⟨us, by simpa using q1, q2, q3⟩

/-- The beginning of an owned row. -/
theorem Has.prefix_ {w : World} {base sz n cap g m : Nat} {xs : List Value} (h : Has w base e sz (.slice (some ⟨g, 0, none⟩) n cap) n xs) (hm : m ≤ n) : Has w base e sz (.slice (some ⟨g, 0, none⟩) m cap) m (xs.take (m * sz)) := by
  refine ⟨by rw [List.length_take, h.1]; exact Nat.min_eq_left (Nat.mul_le_mul_right _ hm), ?_⟩
  rcases h.2 with ⟨h0, _⟩ | ⟨g', cap', cur, h1, h2, h3, h4, h5, h6, h7⟩
  · cases h0
  · injection h1 with h1 _ hc
    injection h1 with h1
    injection h1 with h1
    subst h1 hc
    refine .inr ⟨g, cap, cur, rfl, h2, h3, by omega, h5, h6, ?_⟩
    rw [← h7, List.take_take, Nat.min_eq_left (Nat.mul_le_mul_right _ hm)]

/-- Appending within the row: in place. -/
theorem run_app_in (E : EI P t e z zl bytes) (ty : TypeId) {w : World} {base n cap g : Nat} {xs : List Value} (hown : Has w base e zl.length (.slice (some ⟨g, 0, none⟩) n cap) n xs) {A : Option Addr} {m : Nat} (c : Nat) {news : List Value} (hsrc : Src w A m zl.length news)
    (hroom : n + m ≤ cap) :
    ∃ w', (Builtin.append_ #[t, t] ty #[.slice (some ⟨g, 0, none⟩) n cap, .slice A m c]).run P w = .ok (.slice (some ⟨g, 0, none⟩) (n + m) cap) w' ∧ Has w' base e zl.length (.slice (some ⟨g, 0, none⟩) (n + m) cap) (n + m) (xs ++ news) ∧ w.grownBy w' (some g) := by
  obtain ⟨i, h1, h2, h3, h4⟩ := E.info
  obtain ⟨s1, s2, s3, s4⟩ := hsrc
  have hown0 := hown
  rcases hown.2 with ⟨h0, _⟩ | ⟨g', cap', cur, hv, q1, q2, q3, q4, q5, q6⟩
  · cases h0
  injection hv with hv _ hc
  injection hv with hv
  injection hv with hv
  subst hv hc
  cases A with
  | some ad =>
    have hfit : n * i.size + news.length ≤ cur.size := by
      rw [h3, s1, ← Nat.add_mul]
      exact Nat.le_trans (Nat.mul_le_mul_right _ hroom) q5
    have hr := run_append_room (P := P) w t ty e i E.und h1 g n cap cur q2 ad m c news (by rw [h3]; exact s1) (s3 ad rfl) s4 hroom hfit
    refine ⟨_, hr, ⟨by rw [List.length_append, hown0.1, s1, Nat.add_mul], .inr ⟨g, cap, _, rfl, q1, setRow_heap w g cur _ e _ q2, hroom, q4, ?_, ?_⟩⟩, ⟨rfl, rfl, rfl, by simp, fun k _ hk => setRow_other w g k _ (fun e => hk (by simp [e]))⟩⟩
    · simp only [List.size_toArray, List.length_append, List.length_take, List.length_drop, Array.length_toList]
      omega
    · have hlen : (n + m) * zl.length = (xs ++ news).length := by rw [List.length_append, hown0.1, s1, Nat.add_mul]
      rw [h3, q6, hlen]
      exact List.take_left
  | none =>
    have hm := s2 rfl
    subst hm
    have hnil : news = [] := List.eq_nil_of_length_eq_zero (by simpa using s1)
    subst hnil
    refine ⟨w, ?_, by simpa using hown0, ⟨rfl, rfl, rfl, Nat.le_refl _, fun _ _ _ => rfl⟩⟩
    simp [Builtin.append_, run_underlying E.und, sizeOf, typeInfo, h1, Builtin.lenOf, Builtin.firstCells, q3, storeCells]

theorem wp_app_in {o : Oper} {a : Act} {K : Act → World → Prop} {Q : Exit → Act → World → Prop} (E : EI P t e z zl bytes) (s x : Operand) (ho : o.op = .call { callee := .builtin .append, args := #[s, x], argTypes := #[t, t] })
    {w : World} {base n cap g r : Nat} {xs : List Value} (hs : a.eval s = .slice (some ⟨g, 0, none⟩) n cap) (hown : Has w base e zl.length (.slice (some ⟨g, 0, none⟩) n cap) n xs) {A : Option Addr} {m c : Nat} {news : List Value} (hx : a.eval x = .slice A m c) (hsrc : Src w A m zl.length news)
    (hroom : n + m ≤ cap) (hr : r = n + m)
    (h : ∀ w', Has w' base e zl.length (.slice (some ⟨g, 0, none⟩) r cap) r (xs ++ news) → w.grownBy w' (some g) → K (a.put o.dst (.slice (some ⟨g, 0, none⟩) r cap)) w') : o.wp P a w K Q := by
  obtain ⟨w', hrun, h2, h3⟩ := run_app_in E o.type hown c hsrc hroom
  subst hr
  unfold Oper.wp execOp
  simp only [ho, resolve, invoke, builtin, Sem.run_bind, Sem.run_pure, Result.andThen_ok, List.map_toArray, List.map_cons, List.map_nil, hs, hx, hrun]
  exact h w' h2 h3

/-- clear(s[n:n+m]) behind a row's first n elements. -/
theorem run_clear_behind (E : EI P t e z zl bytes) {w : World} {base n cap g m c o' : Nat} {xs : List Value} (hown : Has w base e zl.length (.slice (some ⟨g, 0, none⟩) n cap) n xs) (ho : 0 < m → o' = n * zl.length) (hm : n + m ≤ cap)
    (hz : ∀ u ∈ zl, u.oneCell' = true) (hzv : ∀ w, (zeroValue e).run P w = .ok z w) :
    ∃ w', (∀ ty, (Builtin.clear_ #[t] ty #[.slice (some ⟨g, o', none⟩) m c]).run P w = .ok (.tuple #[]) w') ∧ Has w' base e zl.length (.slice (some ⟨g, 0, none⟩) n cap) n xs ∧ w.grownBy w' (some g) := by
  rcases Nat.eq_zero_or_pos m with h0 | h0
  · subst h0
    refine ⟨w, ?_, hown, ⟨rfl, rfl, rfl, Nat.le_refl _, fun _ _ _ => rfl⟩⟩
    intro ty
    simp [Builtin.clear_, run_underlying E.und]
  · have ho := ho h0
    subst ho
    obtain ⟨k, rfl⟩ : ∃ k, m = k + 1 := ⟨m - 1, by omega⟩
    have hown0 := hown
    rcases hown.2 with ⟨h0, _⟩ | ⟨g', cap', cur, hv, q1, q2, q3, q4, q5, q6⟩
    · cases h0
    injection hv with hv _ hc
    injection hv with hv
    injection hv with hv
    subst hv hc
    have hzc : (Builtin.zeroCells z.cells (k + 1)).toList.length = (k + 1) * zl.length := by
      rw [Array.length_toList, size_zeroCells, E.zc]; simp
    have hfit : n * zl.length + 0 + (Builtin.zeroCells z.cells (k + 1)).toList.length ≤ cur.size := by
      rw [hzc, Nat.add_zero, ← Nat.add_mul]
      exact Nat.le_trans (Nat.mul_le_mul_right _ hm) q5
    have h1c : ∀ v ∈ (Builtin.zeroCells z.cells (k + 1)).toList, v.oneCell' = true := by
      intro v hv
      simp only [Builtin.zeroCells, Array.toList_map, List.mem_map] at hv
      obtain ⟨i, _, rfl⟩ := hv
      apply hz
      have hlt : i % z.cells.size < zl.length := by
        rw [E.zc]; simpa using Nat.mod_lt i E.pos
      have e2 : z.cells[i % z.cells.size]! = zl[i % z.cells.size] := by
        have hlt' : i % z.cells.size < z.cells.size := by rw [E.zc] at hlt ⊢; simpa using hlt
        rw [getElem!_pos z.cells _ hlt']
        simp [E.zc]
      rw [e2]
      exact List.getElem_mem hlt
    have hst := run_storeCells_at P g (n * zl.length) e (Builtin.zeroCells z.cells (k + 1)).toList 0 cur w q2 hfit h1c
    rw [Nat.add_zero] at hst
    refine ⟨w.setRow g (cur.toList.take (n * zl.length) ++ (Builtin.zeroCells z.cells (k + 1)).toList ++ cur.toList.drop (n * zl.length + (Builtin.zeroCells z.cells (k + 1)).toList.length)).toArray, ?_, ?_, ⟨rfl, rfl, rfl, by simp, fun k _ hk => setRow_other w g k _ (fun e => hk (by simp [e]))⟩⟩
    · intro ty
      simp only [Builtin.clear_]
      simp [run_underlying E.und, hzv, hst]
    refine ⟨hown0.1, .inr ⟨g, cap, _, rfl, q1, setRow_heap w g cur _ e _ q2, q3, q4, ?_, ?_⟩⟩
    · simp only [List.size_toArray, List.length_append, List.length_take, List.length_drop, Array.length_toList] at hfit ⊢
      omega
    · have h8 := Nat.le_trans (Nat.mul_le_mul_right zl.length q3) q5
      rw [List.append_assoc, List.take_append_of_le_length, List.take_take, Nat.min_self, q6]
      rw [List.length_take, Array.length_toList]; exact Nat.le_min.2 ⟨Nat.le_refl _, h8⟩

end
end Go.Proofs.Yteknlifgejpjfaa
