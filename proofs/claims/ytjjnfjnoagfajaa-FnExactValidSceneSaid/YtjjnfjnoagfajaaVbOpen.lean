/-
  Paths as arguments: how they are read.
-/
import Derived.Test.YtjjnfjnoagfajaaVbPut
import Derived.Test.YtjjnfjnoagfajaaOpen
namespace Go.Proofs.Ytjjnfjnoagfajaa
open Go Go.RowKit Go.ChangeShapes Go.WideShapes Go.ChangeAt Go.Deep Reg
theorem opens_vb {P : Program} {t e : TypeId} {f0 f1 g0 g1 : Field} (ht : P.underlying t = some (.struct #[f0, f1])) (hc : P.cellsOf t = 1 + 1) (o0 : f0.offset = 0) (o1 : f1.offset = 1)
    (k0 : P.cellsOf f0.type = 1) (k1 : P.cellsOf f1.type = 1) (h0 : P.underlying f0.type = some (.int .i64)) (h1 : P.underlying f1.type = some (.slice e))
    (hp : P.underlying e = some (.struct #[g0, g1])) (hpc : P.cellsOf e = 2) (p0 : g0.offset = 0) (p1 : g1.offset = 1) (q0 : P.cellsOf g0.type = 1) (q1 : P.cellsOf g1.type = 1) (r0 : P.underlying g0.type = some (.int .i64)) (r1 : P.underlying g1.type = some (.int .i64)) : Opens P t verbK :=
  Opens.mono (opens_struct2 (c0 := 1) (c1 := 1) ht hc o0 o1 k0 k1 (opens_int h0) (opens_slice h1 hpc (by decide) (opens_pt hp hpc p0 p1 q0 q1 r0 r1))) fun w x us ⟨u0, u1, r0, r1, e⟩ => ⟨x, by
    have e0 : u0 = [.int .i64 x.1] := r0
    obtain ⟨A, cap, e1, h2, _, h4, h5, h6⟩ := r1
    subst e0 e1
    exact ⟨A, cap, e, h2, h6, h4, h5⟩⟩
theorem vbk_len {w : World} {A : Option Addr} {vs : List Vb} (h : VbK w A vs) : ∀ v ∈ vs, v.2.length ≤ 9223372036854775807 := by
  intro v hv
  obtain ⟨k, hk, rfl⟩ := List.getElem_of_mem hv
  obtain ⟨b, off, _, _, hc⟩ := h.vbk (by omega)
  obtain ⟨A', cap', _, _, _, h1, h2, h3⟩ := hc k hk
  unfold maxLen at h3
  omega
end Go.Proofs.Ytjjnfjnoagfajaa
