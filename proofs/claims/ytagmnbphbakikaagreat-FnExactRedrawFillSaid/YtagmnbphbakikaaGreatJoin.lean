/-
  The facts that join a statement to its program, in two parts: less memory for each.
-/
import Derived.ProofKit
import Derived.ChangeSame
namespace Go.Proofs.YtagmnbphbakikaaGreat
open Go Go.RowKit
def joinA (P : Program) (f : FuncId) (fn : Func) (s : ChangeSpec) (c : OpenClaim) : Bool :=
  (c.wf (OpenSpec.ofChange s)) && (laidOutB P) && (mapsRowed P) && (fn.params.all (P.readableRec ·)) && (namedTie P c.named s.vars) && ((c.stops == [])) && ((P.stops == [])) && ((c.knobs == [])) && ((P.stopKnobs == [])) && ((c.inPlace == P.inPlace f)) && ((c.unfollowed == P.unfollowed f)) && ((c.recurses == P.recurses f)) && ((c.named == P.varsNamed f)) && ((c.maps == (fn.params.toList ++ s.plain.varTypes P).any (P.mapsRec ·))) && ((c.ifaces == (fn.params.toList ++ s.plain.varTypes P).any (P.ifacesRec ·))) && ((c.mapsOut == P.mapsAmong fn.resultTypes.toList)) && ((c.loops == (fn.params.toList ++ s.plain.varTypes P).any (P.loopsFrom ·))) && ((c.wideKeys == (fn.params.toList ++ s.plain.varTypes P ++ fn.resultTypes.toList).any (P.wideKeysFrom ·))) && (s.vars.all (P.varReadable ·)) && (fn.resultTypes.all (fun t => P.readableRec t && decide (t < P.types.size))) && ((c.ifacesOut == fn.resultTypes.toList.any (P.ifacesRec ·))) && ((c.loopsOut == fn.resultTypes.toList.any (P.loopsFrom ·))) && ((c.plainKeys == P.plainKeys)) && (c.shortTexts.isNone) && (P.stopsHeard) && ((c.kinds == (if c.domain.isEmpty then [] else fn.params.toList.map fun t => match P.underlying t with | some (.int k) => some k | _ => none))) && ((c.pinned == c.pinnedBy)) && ((c.veiled == (fn.params.toList ++ s.plain.varTypes P ++ fn.resultTypes.toList).any (P.veiledRec ·))) && (c.veiledFits P fn.params.toList (fn.params.toList ++ s.plain.varTypes P ++ fn.resultTypes.toList))
def joinB (P : Program) (c : OpenClaim) : Bool := (P.mayEnter) && ((c.lifted == P.liftsFinal)) && ((P.make == some c.make))
theorem joined_of {P : Program} {f : FuncId} {fn : Func} {s : ChangeSpec} {c : OpenClaim} (hA : joinA P f fn s c = true) (hB : joinB P c = true) : joinedFacts P f fn s c = true := by
  unfold joinA at hA
  unfold joinB at hB
  unfold joinedFacts
  simp only [Bool.and_eq_true] at hA hB ⊢
  obtain ⟨⟨⟨⟨⟨⟨⟨⟨⟨⟨⟨⟨⟨⟨⟨⟨⟨⟨⟨⟨⟨⟨⟨⟨⟨⟨⟨⟨h0, h1⟩, h2⟩, h3⟩, h4⟩, h5⟩, h6⟩, h7⟩, h8⟩, h9⟩, h10⟩, h11⟩, h12⟩, h13⟩, h14⟩, h15⟩, h16⟩, h17⟩, h18⟩, h19⟩, h20⟩, h21⟩, h22⟩, h23⟩, h24⟩, h28⟩, h29⟩, h30⟩, h31⟩ := hA
  obtain ⟨⟨h25, h26⟩, h27⟩ := hB
  exact ⟨⟨⟨⟨⟨⟨⟨⟨⟨⟨⟨⟨⟨⟨⟨⟨⟨⟨⟨⟨⟨⟨⟨⟨⟨⟨⟨⟨⟨⟨⟨h0, h1⟩, h2⟩, h3⟩, h4⟩, h5⟩, h6⟩, h7⟩, h8⟩, h9⟩, h10⟩, h11⟩, h12⟩, h13⟩, h14⟩, h15⟩, h16⟩, h17⟩, h18⟩, h19⟩, h20⟩, h21⟩, h22⟩, h23⟩, h24⟩, h25⟩, h26⟩, h27⟩, h28⟩, h29⟩, h30⟩, h31⟩
end Go.Proofs.YtagmnbphbakikaaGreat
