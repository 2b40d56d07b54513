/-
  The reader that draws data out of bytes: its state, and the walks of pick and one.
-/
import Derived.Test.YtjjnfjnoagfajaaSlice
import Derived.Test.YtjjnfjnoagfajaaPts
namespace Go.Proofs.Ytjjnfjnoagfajaa
open Go Go.RowKit Reg
attribute [local go_sem] calmAt calmUpon

def byteR : World → Int → List Value → Prop := fun _ n us => us = [.int .u8 n] ∧ 0 ≤ n ∧ n ≤ 255
theorem byteR_stab : Stab byteR := fun _ _ _ _ h _ => h
theorem In.bytes {w : World} {A : Option Addr} {ns : List Int} (h : In byteR 1 w A ns) (hn : 0 < ns.length) : ∃ b off, A = some ⟨b, off, none⟩ ∧ b < w.heap.size ∧
    ∀ (k : Nat) (h : k < ns.length), w.cell? ⟨b, off + k, none⟩ = some (.int .u8 ns[k]) ∧ 0 ≤ ns[k] ∧ ns[k] ≤ 255 := by
  have hlt := h.lt (by omega) hn
  obtain ⟨b, off, hA, hc⟩ := h hn
  refine ⟨b, off, hA, hlt b off hA, fun k hk => ?_⟩
  obtain ⟨us, h1, _, h3⟩ := hc k hk
  obtain ⟨h1, h4, h5⟩ := h1
  subst h1
  have := h3 0 _ rfl
  exact ⟨by simpa using this, h4, h5⟩
end Go.Proofs.Ytjjnfjnoagfajaa
