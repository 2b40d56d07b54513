/-
  Pictures of scenes: the walks.
-/
import Derived.Test.YthjmpofdpmlhmaaGreatMg13
import Derived.Test.YthjmpofdpmlhmaaGreatMg11
import Derived.Test.YthjmpofdpmlhmaaGreatPaintQ
namespace Go.Proofs.YthjmpofdpmlhmaaGreat
open Go Go.RowKit Reg
attribute [local go_sem] calmAt calmUpon
theorem run_make_cap {P : Program} {t e : TypeId} {z : Value} {zl : List Value} {bytes : Nat} (E : EI P t e z zl bytes) (n : Nat) (hn : n ≤ 4000000000) (w : World) :
    (Instr.makeSlice t (.int .i64 0) (.int .i64 (n : Int))).run P w = .ok (.slice (some ⟨w.heap.size, 0, none⟩) 0 n) (w.alloc (.cells ((List.replicate n zl).flatten).toArray e)) := by
  obtain ⟨i, h1, h2, h3, h4⟩ := E.info
  have hs := E.small
  have hb : i.bytes * n ≤ 1000 * 4000000000 := Nat.mul_le_mul (by omega) hn
  have hb' : (i.bytes : Int) * (n : Int) ≤ 281474976710656 := by rw [← Int.natCast_mul]; omega
  have hr := run_make (P := P) w t e i z E.und h1 h2 .i64 .i64 0 (n : Int) (Int.le_refl _) (by omega) hb' (by omega)
  rw [hr, Int.toNat_natCast, h3, madeCells_eq n E.zc E.pos]
  rfl
theorem own_cap {w : World} {B b n sz : Nat} {e : TypeId} {zl : List Value} (h : Row w b e ((List.replicate n zl).flatten)) (hB : B ≤ b) (hz : zl.length = sz) (hn : n ≤ 4000000) : Has w B e sz (.slice (some ⟨b, 0, none⟩) 0 n) 0 [] := by
  refine ⟨by simp, .inr ⟨b, n, _, rfl, hB, h, Nat.zero_le _, by unfold maxLen; omega, ?_, by simp⟩⟩
  simp [hz]
theorem ei_co : EI Tryz.prog 30 63 (.agg #[.int .i64 0, .int .i64 0, .int .i64 0, .int .i64 0]) [.int .i64 0, .int .i64 0, .int .i64 0, .int .i64 0] 32 := ei_mk Tryz.underlying30 (by kernel_rfl) rfl (by decide) (by decide)
/-- Colors returned, in a row of their own. -/
def RetCo (w : World) (cs : List Bx4) (e : Ending) (w' : World) : Prop := ∃ A' cap', e = .returned (.slice A' cs.length cap') ∧ Has w' w.heap.size 63 4 (.slice A' cs.length cap') cs.length (cs.flatMap bxC) ∧ Below w.heap.size w w'
theorem RetCo.none {w w' : World} {cs : List Bx4} (h : cs = []) (hb : Below w.heap.size w w') : RetCo w cs (.returned (.slice Option.none 0 0)) w' := by
  subst h; exact ⟨.none, 0, rfl, own_nil _ _ _ _, hb⟩
theorem cos_own {w : World} {B : Nat} {A : Option Addr} {cs : List Bx4} {cap : Nat} (h : Has w B 63 4 (.slice A cs.length cap) cs.length (cs.flatMap bxC)) : Cos w A cs := own_in (enc := bxC) bxC_len (by decide) h (fun _ => rfl)
set_option maxHeartbeats 1000000 in
theorem c_eqColorS (A1 A2 : Option Addr) (cap1 cap2 : Nat) (cs : List Bx4) (w : World) (h1 : Cos w A1 cs) (h2 : Cos w A2 cs) (hl : cs.length ≤ 1048576) :
    Calls Tryz.prog 34 #[.slice A1 cs.length cap1, .slice A2 cs.length cap2] w fun e w' => e = .returned (.bool true) ∧ Below w.heap.size w w' := by
  have H := Lib.hid h1
  have H2 := Lib.hid h2
  clear h1 h2
  go_enter Tryz.func34, Tryz.ntmps34
  go_wp2_with fail
  go_loopw [5] (fun i wr => ∃ (k : Nat), k ≤ cs.length ∧ i = .int .i64 k ∧ Ext w wr) (fun i _ => cs.length - (intOf i).toNat)
  case atStart => exact ⟨0, Nat.zero_le _, rfl, Below.refl _ _⟩
  case round =>
    obtain ⟨k, hk, rfl, hbw⟩ := hrel
    have E := Lib.hid hbw
    clear hbw
    by_cases hlt : k < cs.length
    · obtain ⟨b, off, hA, _, hc⟩ := (H.out.ext coR_stab E.out).cos (by omega)
      obtain ⟨b2, off2, hA2, _, hc2⟩ := (H2.out.ext coR_stab E.out).cos (by omega)
      obtain ⟨x0, x1, x2, x3⟩ := hc k hlt
      obtain ⟨y0, y1, y2, y3⟩ := hc2 k hlt
      clear hc hc2
      generalize cs[k] = q at *
      subst hA hA2
      obtain ⟨q0, q1, q2, q3⟩ := q
      dsimp only at x0 x1 x2 x3 y0 y1 y2 y3
      have hkI : (k : Int) < (cs.length : Int) := by omega
      go_wp2_with fail
      refine wp_region_calm [0,1,2,3,4,5,6,7] [8,9] (by kernel_rfl) (by kernel_rfl) ?_
      iterate 8 ((refine calm_yes rfl rfl (fun w' hC => (by have x0 := hC.cell x0; have x1 := hC.cell x1; have x2 := hC.cell x2; have x3 := hC.cell x3; have y0 := hC.cell y0; have y1 := hC.cell y1; have y2 := hC.cell y2; have y3 := hC.cell y3; go_simp; rfl)) (fun K hK => ?_); go_simp; refine hK _ ?_; clear hK K))
      refine calm_nil (fun wa hCa => ?_)
      clear x0 x1 x2 x3 y0 y1 y2 y3
      have Ea := ext_cls hCa
      refine late_fn rfl rfl rfl Tryz.func61 (by kernel_rfl) rfl (by go_simp) (fun wb hxb K hK => (c_eqColor (q0, q1, q2, q3) wb).mono ?_)
      rintro e wc ⟨rfl, hb⟩
      refine ⟨_, rfl, hK _ _ ⟨fun _ => Cls.ext (Cls.ext hCa hxb) hb, ?_⟩⟩
      clear hK K
      refine late_free (by kernel_rfl) rfl rfl (fun wf hxf K hK => ?_)
      go_simp
      refine hK _ _ ?_
      clear hK K
      refine late_nil (fun wz hxz => ?_)
      have E2 := Lib.hid (Ext.trans E.out (Ext.trans (Ext.trans Ea (Ext.trans hxb hb)) (Ext.trans hxf hxz)))
      clear hxb hb hxf hxz hCa Ea
      go_wp2
      go_roundw
      case rel => exact ⟨k + 1, by omega, by go_num, E2.out⟩
      case measure => simp [intOf]; omega
    · have hk' : ¬ ((k : Int) < (cs.length : Int)) := by omega
      go_wp2
      go_ret
      exact ⟨rfl, E.out⟩
end Go.Proofs.YthjmpofdpmlhmaaGreat
