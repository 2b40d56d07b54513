/-
  The box around points: the walks.
-/
import Derived.Test.YthjmpofdpmlhmaaGreatMg2
namespace Go.Proofs.YthjmpofdpmlhmaaGreat
open Go Go.RowKit Reg
attribute [local go_sem] calmAt calmUpon
abbrev Bx4 := Int × Int × Int × Int
def bxAdd (b : Bx4) (p : Pt) : Bx4 := (min b.1 p.1, min b.2.1 p.2, max b.2.2.1 p.1, max b.2.2.2 p.2)
def bxPt (p : Pt) : Bx4 := (p.1, p.2, p.1, p.2)
/-- The box around points. -/
def boxOfL : List Pt → Bx4
  | [] => (0, 0, 0, 0)
  | p :: ps => (p :: ps).foldl bxAdd (bxPt p)
def bxK (ps : List Pt) (k : Nat) : Bx4 := (ps.take k).foldl bxAdd (bxPt (ps.headD (0, 0)))
def bxC (b : Bx4) : List Value := [.int .i64 b.1, .int .i64 b.2.1, .int .i64 b.2.2.1, .int .i64 b.2.2.2]
abbrev bx4V (b : Bx4) : Value := .agg #[.int .i64 b.1, .int .i64 b.2.1, .int .i64 b.2.2.1, .int .i64 b.2.2.2]
theorem bxK_succ {ps : List Pt} {k : Nat} (hk : k < ps.length) : bxK ps (k + 1) = bxAdd (bxK ps k) ps[k] := by
  unfold bxK
  rw [List.take_succ_eq_append_getElem hk, List.foldl_append]
  rfl
theorem bxK_all {ps : List Pt} (h : 0 < ps.length) : bxK ps ps.length = boxOfL ps := by
  unfold bxK
  match ps, h with
  | p :: ps, _ => simp [boxOfL]
end Go.Proofs.YthjmpofdpmlhmaaGreat
