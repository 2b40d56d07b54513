/-
  How much of the pixels of a size is covered, row by row: the walks.
-/
import Derived.Test.YtefbebikbdigfaaCover
import Derived.Test.YtefbebikbdigfaaClone
namespace Go.Proofs.Ytefbebikbdigfaa
open Go Go.RowKit Reg
attribute [local go_sem] calmAt calmUpon
/-- The first i rows of wd pixels, and the first k pixels of the next. -/
def cellsM (f : Nat → Nat → Int) (wd i k : Nat) : List Int := ((List.range i).flatMap fun a => (List.range wd).map (f a)) ++ (List.range k).map (f i)
theorem cellsM_succ (f : Nat → Nat → Int) (wd i k : Nat) : cellsM f wd i k ++ [f i k] = cellsM f wd i (k + 1) := by
  unfold cellsM; rw [List.range_succ (n := k), List.map_append, ← List.append_assoc]; rfl
theorem cellsM_row (f : Nat → Nat → Int) (wd i : Nat) : cellsM f wd i wd = cellsM f wd (i + 1) 0 := by
  unfold cellsM; rw [List.range_succ (n := i), List.flatMap_append]; simp
theorem cellsM_len (f : Nat → Nat → Int) {wd i k : Nat} (h1 : wd ≤ 12) (h2 : i ≤ 12) (h3 : k ≤ 12) : (cellsM f wd i k).length ≤ 156 := by
  have hs : ∀ i, ((List.range i).map fun _ => wd).sum = i * wd := by
    intro i
    induction i with
    | zero => simp
    | succ i ih => rw [List.range_succ, List.map_append, List.sum_append, ih, Nat.add_mul]; simp
  have h : (cellsM f wd i k).length = i * wd + k := by
    simp [cellsM, List.length_flatMap, hs]
  have := Nat.mul_le_mul h2 h1
  omega
def coverF (rs : List Rg) (rule : Int) (i k : Nat) : Int := coverL rs rule k i
def maskR (rs : List Rg) (rule wd ht : Int) : List Int := if rgsB rs && inB rule 0 1 && (inB wd 1 12 && inB ht 1 12) then cellsM (coverF rs rule) wd.toNat ht.toNat 0 else []
theorem maskR_len (rs : List Rg) (rule wd ht : Int) : (maskR rs rule wd ht).length ≤ 156 := by
  unfold maskR
  split
  · rename_i h
    simp only [Bool.and_eq_true] at h
    obtain ⟨_, h1, h2⟩ := h
    have h1 := inB_iff.1 h1
    have h2 := inB_iff.1 h2
    exact cellsM_len _ (by omega) (by omega) (by omega)
  · simp
/-- Numbers returned, in a row of their own. -/
def RetIs (w : World) (ns : List Int) (e : Ending) (w' : World) : Prop := ∃ A' cap', e = .returned (.slice A' ns.length cap') ∧ Has w' w.heap.size 3 1 (.slice A' ns.length cap') ns.length (ns.flatMap intC) ∧ Below w.heap.size w w'
theorem RetIs.none {w w' : World} {ns : List Int} (h : ns = []) (hb : Below w.heap.size w w') : RetIs w ns (.returned (.slice none 0 0)) w' := by
  subst h; exact ⟨.none, 0, rfl, own_nil _ _ _ _, hb⟩
set_option maxHeartbeats 1000000 in
theorem c_validSize (a b : Int) (w : World) : Calls Try.prog 33 #[.int .i64 a, .int .i64 b] w fun e w' => e = .returned (.bool (inB a 1 12 && inB b 1 12)) ∧ w = w' := by
  obtain ⟨d1, hd1⟩ : ∃ d, inB a 1 12 = d := ⟨_, rfl⟩
  have H1 := Lib.hid hd1
  rw [hd1]
  clear hd1
  go_enter Try.func33, Try.ntmps33
  go_wp2_with fail
  refine (c_inRange a 1 12 _).mono ?_
  rw [H1.out]
  rintro e w' ⟨rfl, rfl⟩
  cases d1
  · go_wp2
    go_ret
    exact ⟨rfl, rfl⟩
  · go_wp2_with fail
    refine (c_inRange b 1 12 _).mono ?_
    rintro e w' ⟨rfl, rfl⟩
    go_wp2
    go_ret
    exact ⟨rfl, rfl⟩
set_option maxHeartbeats 1000000 in
theorem c_sized (a b : Int) (w : World) : Calls Try.prog 83 #[.int .i64 a, .int .i64 b] w fun e w' => e = .returned (.bool (inB a 1 12 && inB b 1 12)) ∧ w = w' := by
  obtain ⟨d1, hd1⟩ : ∃ d, inB a 1 12 = d := ⟨_, rfl⟩
  have H1 := Lib.hid hd1
  rw [hd1]
  clear hd1
  go_enter Try.func83, Try.ntmps83
  go_wp2_with fail
  refine (c_in a 1 12 _).mono ?_
  rw [H1.out]
  rintro e w' ⟨rfl, rfl⟩
  cases d1
  · go_wp2
    go_ret
    exact ⟨rfl, rfl⟩
  · go_wp2_with fail
    refine (c_in b 1 12 _).mono ?_
    rintro e w' ⟨rfl, rfl⟩
    go_wp2
    go_ret
    exact ⟨rfl, rfl⟩
set_option maxRecDepth 100000 in
set_option maxHeartbeats 4000000 in
theorem c_masked (A : Option Addr) (cap : Nat) (rs : List Rg) (rule : Int) (wn hn : Nat) (w : World) (h : Rgs w A rs) (hv : rgsB rs = true) (hw : wn ≤ 12) (hh : hn ≤ 12) :
    Calls Try.prog 50 #[.slice A rs.length cap, .int .i64 rule, .agg #[.int .i64 0, .int .i64 0, .int .i64 wn, .int .i64 hn]] w fun e w' => RetIs w (cellsM (coverF rs rule) wn hn 0) e w' := by
  have H := Lib.hid h
  have Hv := Lib.hid hv
  have E := Lib.hid (Below.refl w.heap.size w)
  clear h hv
  go_enter Try.func50, Try.ntmps50
  go_wp2_with fail
  first | refine gen_calls ?_ | refine gen_code ?_ | refine gen_list ?_
  intro w1 hW
  obtain ⟨hb, hR⟩ := new1 hW
  clear hW
  replace E := Lib.hid (Ext.trans E.out hb)
  clear hb
  have R := Lib.hid hR
  have lR := R.out.lt
  clear hR
  have R' := R
  clear R
  have O := Lib.hid (own_nil w1 w.heap.size 3 1)
  have c0 := R'.out.cell_of (i := 0) rfl
  have c1 := R'.out.cell_of (i := 1) rfl
  have c2 := R'.out.cell_of (i := 2) rfl
  have c3 := R'.out.cell_of (i := 3) rfl
  go_wp2_with fail
  go_loopw [7, 8, 9] (fun o r _ wr => ∃ (i : Nat) (A1 : Option Addr) (cap1 : Nat) (xs : List Int), i ≤ hn ∧ r = .int .i64 i ∧ o = .slice A1 xs.length cap1 ∧ xs = cellsM (coverF rs rule) wn i 0 ∧ Has wr w.heap.size 3 1 (.slice A1 xs.length cap1) xs.length (xs.flatMap intC) ∧ Row wr w.heap.size 56 [.int .i64 0, .int .i64 0, .int .i64 wn, .int .i64 hn] ∧ Below w.heap.size w wr) (fun _ r _ _ => hn - (intOf r).toNat)
  case atStart => exact ⟨0, _, 0, [], Nat.zero_le _, rfl, rfl, rfl, O.out, R'.out, E.out⟩
  case round =>
    obtain ⟨i, A1, cap1, xs, hi, rfl, rfl, hxs, hor, hrr, hbw⟩ := hrel
    clear c0 c1 c2 c3
    clear O E R'
    have O := Lib.hid hor
    have E := Lib.hid hbw
    have R := Lib.hid hrr
    have Hxs := Lib.hid hxs
    clear hor hbw hrr hxs
    by_cases hlt : i < hn
    · have hltI : decide ((i : Int) < (hn : Int)) = true := by simp; omega
      have c0 := R.out.cell_of (i := 0) rfl
      have c1 := R.out.cell_of (i := 1) rfl
      have c2 := R.out.cell_of (i := 2) rfl
      have c3 := R.out.cell_of (i := 3) rfl
      go_wp2_with fail
      go_loopw [7, 9] (fun o r wr => ∃ (k : Nat) (A1 : Option Addr) (cap1 : Nat) (xs : List Int), k ≤ wn ∧ r = .int .i64 k ∧ o = .slice A1 xs.length cap1 ∧ xs = cellsM (coverF rs rule) wn i k ∧ Has wr w.heap.size 3 1 (.slice A1 xs.length cap1) xs.length (xs.flatMap intC) ∧ Row wr w.heap.size 56 [.int .i64 0, .int .i64 0, .int .i64 wn, .int .i64 hn] ∧ Below w.heap.size w wr) (fun _ r _ => wn - (intOf r).toNat)
      case atStart => exact ⟨0, A1, cap1, xs, Nat.zero_le _, rfl, rfl, Hxs.out, O.out, R.out, E.out⟩
      case round =>
        obtain ⟨k, A2, cap2, ys, hk, rfl, rfl, hys, hor, hrr, hbw⟩ := hrel
        clear c0 c1 c2 c3
        clear O E R
        have O := Lib.hid hor
        have E := Lib.hid hbw
        have R := Lib.hid hrr
        have hzr : w.heap.size ≤ wr.heap.size := hbw.size
        have hyl : ys.length ≤ 156 := by rw [hys]; exact cellsM_len _ hw (by omega) (by omega)
        have Hys := Lib.hid hys
        clear hor hbw hrr hys
        by_cases hlk : k < wn
        · have hlkI : decide ((k : Int) < (wn : Int)) = true := by simp; omega
          have Hn : Hid (ys ++ [coverF rs rule i k] = cellsM (coverF rs rule) wn i (k + 1)) := Lib.hid (by rw [Hys.out, cellsM_succ])
          have KC : Hid (∀ W, Rgs W A rs → Calls Try.prog 70 #[.slice A rs.length cap, .int .i64 rule, .int .i64 k, .int .i64 i] W fun e w' => e = .returned (.int .i64 (coverF rs rule i k)) ∧ Below W.heap.size W w') := Lib.hid (fun W hW => c_icover A cap rs rule k i W hW Hv.out (by omega) (by omega))
          generalize coverF rs rule i k = q at *
          have c0 := R.out.cell_of (i := 0) rfl
          have c1 := R.out.cell_of (i := 1) rfl
          have c2 := R.out.cell_of (i := 2) rfl
          have c3 := R.out.cell_of (i := 3) rfl
          go_wp2_with fail
          clear c0 c1 c2 c3
          refine (KC.out _ (H.out.ext rgR_stab E.out)).mono ?_
          rintro e w2 ⟨rfl, hb⟩
          replace E := Lib.hid (Ext.trans E.out hb)
          replace O := Lib.hid (own_ext O.out hb)
          replace R := Lib.hid (R.out.ext hb)
          have lR := R.out.lt
          clear hb
          have c0 := R.out.cell_of (i := 0) rfl
          have c1 := R.out.cell_of (i := 1) rfl
          have c2 := R.out.cell_of (i := 2) rfl
          have c3 := R.out.cell_of (i := 3) rfl
          go_wp2_with (at_builtin; refine wpList_app (base := w.heap.size) ei_int rfl (.tmp 26) (.tmp 32) rfl rfl (own_ext O.out (ext_alloc _ _)) rfl (src_new _ _ [_] (m := 1) rfl (by intro u hu; simp only [List.mem_cons, List.not_mem_nil, or_false] at hu; subst hu; rfl)) (by omega) (by simp; omega) ?_; intro ve w3 hown hg hat; refine stop_in ?_)
          refine stop_out ?_
          obtain ⟨A3, cap3, hve⟩ := own_form hown
          clear c0 c1 c2 c3
          replace E := Lib.hid (Below.grown (Ext.trans E.out (ext_alloc _ _)) hg (by simp; omega) (fun k hk => by have := (O.out.lt k hk).1; omega))
          replace R := Lib.hid ((R.out.ext (ext_alloc _ _)).grownNe (own_ext O.out (ext_alloc _ _)) (by decide) hg)
          have lR := R.out.lt
          have heq : ys ++ [q] = (ys ++ [q]) := rfl
          replace O : Hid (Has w3 w.heap.size 3 1 (.slice A3 ((ys ++ [q])).length cap3) ((ys ++ [q])).length (((ys ++ [q])).flatMap intC)) := Lib.hid (by
            have q := hown
            rw [hve] at q
            rw [← heq, List.flatMap_append, List.length_append]
            exact q)
          have hvf : ve = .slice A3 ((ys ++ [q])).length cap3 := by rw [hve, ← heq, List.length_append]; rfl
          clear hve
          clear hown hg hat heq
          subst hvf
          have c0 := R.out.cell_of (i := 0) rfl
          have c1 := R.out.cell_of (i := 1) rfl
          have c2 := R.out.cell_of (i := 2) rfl
          have c3 := R.out.cell_of (i := 3) rfl
          go_wp2
          go_roundw
          case rel => exact ⟨k + 1, A3, cap3, _, by omega, by go_num, rfl, Hn.out, O.out, R.out, E.out⟩
          case measure => simp [intOf]; omega
        · obtain rfl : k = wn := by omega
          have hlkI : decide ((k : Int) < (k : Int)) = false := by simp
          have Hf : Hid (ys = cellsM (coverF rs rule) k (i + 1) 0) := Lib.hid (by rw [Hys.out, cellsM_row])
          have c0 := R.out.cell_of (i := 0) rfl
          have c1 := R.out.cell_of (i := 1) rfl
          have c2 := R.out.cell_of (i := 2) rfl
          have c3 := R.out.cell_of (i := 3) rfl
          go_wp2
          go_roundw
          case rel => exact ⟨i + 1, A2, cap2, ys, by omega, by go_num, rfl, Hf.out, O.out, R.out, E.out⟩
          case measure => simp [intOf]; omega
    · obtain rfl : i = hn := by omega
      have hltI : decide ((i : Int) < (i : Int)) = false := by simp
      have hxl : xs.length ≤ 156 := by rw [Hxs.out]; exact cellsM_len _ hw (by omega) (by omega)
      have c0 := R.out.cell_of (i := 0) rfl
      have c1 := R.out.cell_of (i := 1) rfl
      have c2 := R.out.cell_of (i := 2) rfl
      have c3 := R.out.cell_of (i := 3) rfl
      go_wp2_with fail
      refine (c_Clip_ei_int A1 xs.length cap1 _ O.out.slok).mono ?_
      rintro e w' ⟨rfl, rfl⟩
      go_wp2
      go_ret
      rw [← Hxs.out]
      exact ⟨A1, xs.length, rfl, O.out.clip, E.out⟩
end Go.Proofs.Ytefbebikbdigfaa
