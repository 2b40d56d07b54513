/-
  Turns of workers drawn; small helpers of the laws about work: the walks.
-/
import Derived.Test.YtnmnomhoghkdjaaGen
import Derived.Test.YtnmnomhoghkdjaaPair
import Derived.Test.YtnmnomhoghkdjaaStep
namespace Go.Proofs.Ytnmnomhoghkdjaa
open Go Go.RowKit Reg
attribute [local go_sem] calmAt calmUpon
theorem TN_ne_RD : (53 : TypeId) ≠ 59 := by decide
/-- A number of workers and turns drawn. -/
def DrewTr (w w' : World) (e : Ending) (g N : Nat) : Prop := ∃ (W : Int) (A : Option Addr) (cap : Nat) (ts : List Pt), e = .returned (.tuple #[.int .i64 W, .slice A ts.length cap]) ∧ ts.length ≤ 31 ∧ Has w' w.heap.size 53 2 (.slice A ts.length cap) ts.length (ts.flatMap ptC) ∧ Rdr w' g N ∧ w.grownBy w' (some g)
set_option maxRecDepth 100000 in
set_option maxHeartbeats 4000000 in
theorem c_anyTurns (g N : Nat) (w : World) (h : Rdr w g N) (hN : N + 100 ≤ 1000000) :
    Calls Try.prog 29 #[.pointer (some ⟨g, 0, none⟩)] w fun e w' => DrewTr w w' e g (N + 100) := by
  have hlt := h.lt
  have R := Lib.hid h
  clear h
  go_enter Try.func29, Try.ntmps29
  go_wp2_with fail
  refine (c_one g N _ 6 [2, 3, 1, 4, 0, 5] _ (R.out.ext (ext_alloc _ _)) (by omega) (ints_new w _ _ rfl rfl) (by simp) (by simp) (fun b off hA => by cases hA; omega)).mono ?_
  rintro e w1 ⟨W, rfl, hW, hr, hg⟩
  have hW' : 0 ≤ W ∧ W ≤ 5 := by simp at hW; omega
  have G1 := Lib.hid (grown_trans (grown_ext (ext_alloc w _)) hg)
  have R1 := Lib.hid hr
  have hl1 := R1.out.lt
  have hz1 : w.heap.size ≤ w1.heap.size := G1.out.size
  clear hr hg hW R
  go_wp2_with fail
  have O1 := Lib.hid (own_of_row (B := w1.heap.size) (sz := 2) (n := 0) (cs := []) (Row.new w1 53 []) (Nat.le_refl _) rfl (by decide))
  refine (c_one g (N + 1) _ 6 [6, 10, 3, 0, 30, 31] _ ((R1.out.ext (ext_alloc _ _)).ext (ext_alloc _ _)) (by omega) (ints_new (w1.alloc (.cells #[] 53)) _ _ (by simp) rfl) (by simp) (by simp) (fun b off hA => by cases hA; omega)).mono ?_
  rintro e w2 ⟨v, rfl, hv, hr, hg⟩
  have hv' : 0 ≤ v ∧ v ≤ 31 := by simp at hv; omega
  obtain ⟨L, rfl⟩ : ∃ L : Nat, v = (L : Int) := ⟨v.toNat, by omega⟩
  have O2 := Lib.hid (((own_ext O1.out (ext_alloc _ _)).keptR ((R1.out.ext (ext_alloc _ _)).ext (ext_alloc _ _)) TN_ne_RD hg).rebase hz1)
  have G2 := Lib.hid (grown_trans (grown_trans G1.out (grown_ext (Ext.trans (ext_alloc w1 _) (ext_alloc _ _)))) hg)
  have R2 := Lib.hid hr
  clear hr hg hv O1 G1 R1
  go_wp2_with fail
  go_loopw [5, 6] (fun v n wr => ∃ (m : Nat) (A : Option Addr) (cap : Nat) (ts : List Pt), n = .int .i64 m ∧ v = .slice A ts.length cap ∧ ts.length + m = L ∧ Has wr w.heap.size 53 2 (.slice A ts.length cap) ts.length (ts.flatMap ptC) ∧ Rdr wr g (N + 2 + 2 * ts.length) ∧ w.grownBy wr (some g)) (fun _ n _ => (intOf n).toNat)
  case atStart => exact ⟨L, _, 0, [], rfl, rfl, by simp, O2.out, by simpa using R2.out, G2.out⟩
  case round =>
    obtain ⟨m, A, cap, ts, rfl, rfl, hm, how, hrd, hgr⟩ := hrel
    clear O2 R2 G2
    have O := Lib.hid how
    have R := Lib.hid hrd
    have G := Lib.hid hgr
    have hzr : w.heap.size ≤ wr.heap.size := hgr.size
    clear how hrd hgr
    have htl : ts.length ≤ 31 := by omega
    by_cases h0 : 0 < m
    · have h0d : decide ((0 : Int) < (m : Int)) = true := decide_eq_true (by omega)
      have hWc : W = 0 ∨ 1 ≤ W := by omega
      rcases hWc with rfl | hW1
      · skip
        go_wp2_with fail
        refine (c_pick g _ _ wr R.out (by omega)).mono ?_
        rintro e w3 ⟨x, rfl, _, hr, hg⟩
        replace O := Lib.hid (O.out.keptR R.out TN_ne_RD hg)
        replace G := Lib.hid (grown_trans G.out hg)
        replace R := Lib.hid hr
        clear hr hg
        go_wp2_with fail
        refine (c_pick g _ _ w3 R.out (by omega)).mono ?_
        rintro e w4 ⟨y, rfl, _, hr, hg⟩
        replace O := Lib.hid (O.out.keptR R.out TN_ne_RD hg)
        replace G := Lib.hid (grown_trans G.out hg)
        replace R := Lib.hid hr
        clear hr hg
        have hz4 : w.heap.size ≤ w4.heap.size := G.out.size
        go_wp2_with (at_builtin; refine wpList_app (base := w.heap.size) ei_turn rfl (.tmp 18) (.tmp 28) rfl rfl (own_ext O.out (ext_alloc _ _)) rfl (src_new _ _ [_, _] (m := 1) rfl (by intro u hu; simp only [List.mem_cons, List.not_mem_nil, or_false] at hu; rcases hu with rfl | rfl <;> rfl)) (by omega) (by simp; omega) ?_; intro ve w5 hown hg hat; refine stop_in ?_)
        refine stop_out ?_
        obtain ⟨A3, cap3, hve⟩ := own_form hown
        replace R := Lib.hid ((R.out.ext (ext_alloc _ _)).grown hg (fun k hk => by have := (O.out.lt k hk).1; omega))
        replace G := Lib.hid (grown_own (only_ext G.out (ext_alloc _ _)) hg (fun k hk => (O.out.lt k hk).1))
        have heq : ts ++ [(x, y)] = (ts ++ [(x, y)]) := rfl
        replace O : Hid (Has w5 w.heap.size 53 2 (.slice A3 ((ts ++ [(x, y)])).length cap3) ((ts ++ [(x, y)])).length (((ts ++ [(x, y)])).flatMap ptC)) := Lib.hid (by
          have q := hown
          rw [hve] at q
          rw [← heq, List.flatMap_append, List.length_append]
          exact q)
        have hvf : ve = .slice A3 ((ts ++ [(x, y)])).length cap3 := by rw [hve, ← heq, List.length_append]; rfl
        clear hve
        clear hown hg hat heq
        subst hvf
        go_wp2
        go_roundw
        case rel => exact ⟨m - 1, A3, cap3, _, by go_num, rfl, by simp; omega, O.out, by rw [List.length_append]; exact R.out.mono (by simp; omega), G.out⟩
        case measure => simp [intOf]; omega
      · have hW2 : ¬ W < 1 := by omega
        have hW3 : max W 1 = W := by omega
        go_wp2_with fail
        refine (c_pick g _ _ wr R.out (by omega)).mono ?_
        rintro e w3 ⟨x, rfl, _, hr, hg⟩
        replace O := Lib.hid (O.out.keptR R.out TN_ne_RD hg)
        replace G := Lib.hid (grown_trans G.out hg)
        replace R := Lib.hid hr
        clear hr hg
        go_wp2_with fail
        refine (c_pick g _ _ w3 R.out (by omega)).mono ?_
        rintro e w4 ⟨y, rfl, _, hr, hg⟩
        replace O := Lib.hid (O.out.keptR R.out TN_ne_RD hg)
        replace G := Lib.hid (grown_trans G.out hg)
        replace R := Lib.hid hr
        clear hr hg
        have hz4 : w.heap.size ≤ w4.heap.size := G.out.size
        go_wp2_with (at_builtin; refine wpList_app (base := w.heap.size) ei_turn rfl (.tmp 18) (.tmp 28) rfl rfl (own_ext O.out (ext_alloc _ _)) rfl (src_new _ _ [_, _] (m := 1) rfl (by intro u hu; simp only [List.mem_cons, List.not_mem_nil, or_false] at hu; rcases hu with rfl | rfl <;> rfl)) (by omega) (by simp; omega) ?_; intro ve w5 hown hg hat; refine stop_in ?_)
        refine stop_out ?_
        obtain ⟨A3, cap3, hve⟩ := own_form hown
        replace R := Lib.hid ((R.out.ext (ext_alloc _ _)).grown hg (fun k hk => by have := (O.out.lt k hk).1; omega))
        replace G := Lib.hid (grown_own (only_ext G.out (ext_alloc _ _)) hg (fun k hk => (O.out.lt k hk).1))
        have heq : ts ++ [(x, y)] = (ts ++ [(x, y)]) := rfl
        replace O : Hid (Has w5 w.heap.size 53 2 (.slice A3 ((ts ++ [(x, y)])).length cap3) ((ts ++ [(x, y)])).length (((ts ++ [(x, y)])).flatMap ptC)) := Lib.hid (by
          have q := hown
          rw [hve] at q
          rw [← heq, List.flatMap_append, List.length_append]
          exact q)
        have hvf : ve = .slice A3 ((ts ++ [(x, y)])).length cap3 := by rw [hve, ← heq, List.length_append]; rfl
        clear hve
        clear hown hg hat heq
        subst hvf
        go_wp2
        go_roundw
        case rel => exact ⟨m - 1, A3, cap3, _, by go_num, rfl, by simp; omega, O.out, by rw [List.length_append]; exact R.out.mono (by simp; omega), G.out⟩
        case measure => simp [intOf]; omega
    · obtain rfl : m = 0 := by omega
      have h0d : decide ((0 : Int) < ((0 : Nat) : Int)) = false := by simp
      by_cases ht : 0 < ts.length
      · have htd : decide ((0 : Int) < (ts.length : Int)) = true := decide_eq_true (by omega)
        go_wp2_with fail
        refine (c_pick g _ _ wr R.out (by omega)).mono ?_
        rintro e w3 ⟨x, rfl, _, hr, hg⟩
        replace O := Lib.hid (O.out.keptR R.out TN_ne_RD hg)
        replace G := Lib.hid (grown_trans G.out hg)
        replace R := Lib.hid hr
        clear hr hg
        by_cases hx : x = 0
        · subst hx
          go_wp2_with fail
          have hl3 := R.out.lt
          refine (c_one g _ _ 3 [-1, W, 0] _ (R.out.ext (ext_alloc _ _)) (by omega) (ints_new w3 _ _ rfl rfl) (by simp) (by simp) (fun b off hA => by cases hA; omega)).mono ?_
          rintro e w4 ⟨p, rfl, _, hr, hg⟩
          replace O := Lib.hid ((own_ext O.out (ext_alloc _ _)).keptR (R.out.ext (ext_alloc _ _)) TN_ne_RD hg)
          replace G := Lib.hid (grown_trans (grown_alloc G.out _) hg)
          replace R := Lib.hid hr
          clear hr hg
          go_wp2_with fail
          have hl4 := R.out.lt
          refine (c_one g _ _ 2 [0, W] _ (R.out.ext (ext_alloc _ _)) (by omega) (ints_new w4 _ _ rfl rfl) (by simp) (by simp) (fun b off hA => by cases hA; omega)).mono ?_
          rintro e w5 ⟨q, rfl, _, hr, hg⟩
          replace O := Lib.hid ((own_ext O.out (ext_alloc _ _)).keptR (R.out.ext (ext_alloc _ _)) TN_ne_RD hg)
          replace G := Lib.hid (grown_trans (grown_alloc G.out _) hg)
          replace R := Lib.hid hr
          clear hr hg
          obtain ⟨go, rfl, hgo, hgo2⟩ := own_at O.out ht
          have hht : (0 : Int) < (ts.length : Int) := by omega
          obtain ⟨u0, c0⟩ : ∃ u, w5.cell? ⟨go, 0, none⟩ = some u := ⟨_, by rw [O.out.cellAt 0 (by omega)]; exact List.getElem?_eq_getElem (by have := O.out.1; omega)⟩
          obtain ⟨u1, c1⟩ : ∃ u, w5.cell? ⟨go, 1, none⟩ = some u := ⟨_, by rw [O.out.cellAt 1 (by omega)]; exact List.getElem?_eq_getElem (by have := O.out.1; omega)⟩
          have f0 := O.out.frozenAt 0
          have f1 := O.out.frozenAt 1
          have hrow := O.out
          have St := Lib.hid ((O.out.stored 0 (.int .i64 p)).1.stored 1 (.int .i64 q)).1
          have hcs : ((ts.flatMap ptC).set 0 (.int .i64 p)).set 1 (.int .i64 q) = (ts.set 0 (p, q)).flatMap ptC := by
            have := setAll_take_drop ptC_len ts ht (p, q)
            simpa [setAll, ptC] using this
          rw [hcs] at St
          clear hrow hcs
          have R5 := Lib.hid ((R.out.far (p := ⟨go, 0, none⟩) (by dsimp only; omega) (.int .i64 p)).far (p := ⟨go, 1, none⟩) (by dsimp only; omega) (.int .i64 q))
          have G5 := Lib.hid (grown_far (grown_far G.out (p := ⟨go, 0, none⟩) (by exact hgo) (.int .i64 p)) (p := ⟨go, 1, none⟩) (by exact hgo) (.int .i64 q))
          clear R G O
          go_wp2_with fail
          go_ret2
          exact ⟨W, some ⟨go, 0, none⟩, cap, ts.set 0 (p, q), by rw [List.length_set]; rfl, by rw [List.length_set]; omega, by rw [List.length_set]; exact St.out, R5.out.mono (by omega), G5.out⟩
        · have hxb : (x == 0) = false := by simp [hx]
          go_wp2_with fail
          go_ret2
          exact ⟨W, A, cap, ts, rfl, by omega, O.out, R.out.mono (by omega), G.out⟩
      · have htd : decide ((0 : Int) < (ts.length : Int)) = false := decide_eq_false (by omega)
        go_wp2_with fail
        go_ret2
        exact ⟨W, A, cap, ts, rfl, by omega, O.out, R.out.mono (by omega), G.out⟩
/-- Numbers of tiles and workers, and turns, drawn. -/
def DrewWk (w w' : World) (e : Ending) : Prop := ∃ (n W : Int) (A : Option Addr) (cap : Nat) (ts : List Pt), e = .returned (.tuple #[.int .i64 n, .int .i64 W, .slice A ts.length cap]) ∧ ts.length ≤ 31 ∧ (-1 ≤ n ∧ n ≤ 17) ∧ Has w' w.heap.size 53 2 (.slice A ts.length cap) ts.length (ts.flatMap ptC) ∧ Below w.heap.size w w'
set_option maxHeartbeats 2000000 in
theorem c_DrawWorkOrder (A : Option Addr) (cap : Nat) (bs : List Int) (w : World) (h : In byteR 1 w A bs) (hc : bs.length ≤ cap) (hl : cap ≤ 9223372036854775807) :
    Calls Try.prog 8 #[.slice A bs.length cap] w fun e w' => DrewWk w w' e := by
  go_enter Try.func8, Try.ntmps8
  go_wp2_with fail
  refine (c_newReader A cap bs w h hc hl).mono ?_
  rintro e w1 ⟨g, rfl, hg0, hr1, hb1⟩
  have R1 := Lib.hid hr1
  have B1 := Lib.hid hb1
  clear hr1 hb1 h
  go_wp2_with fail
  refine (c_anyTurns g 0 w1 R1.out (by omega)).mono ?_
  rintro e w2 ⟨W, A2, cap2, ts, rfl, hlen, ho2, hr2, hg2⟩
  have R2 := Lib.hid hr2
  have B2 := Lib.hid (below_grown B1.out hg2 hg0 B1.out.size)
  have O2 := Lib.hid (ho2.rebase B1.out.size)
  clear hr2 hg2 ho2
  go_wp2_with fail
  refine (c_one g _ _ 8 [6, 4, 9, 1, 0, 16, 17, -1] _ (R2.out.ext (ext_alloc _ _)) (by omega) (ints_new w2 _ _ rfl rfl) (by simp) (by simp) (fun b off hA => by cases hA; have := R2.out.lt; omega)).mono ?_
  rintro e w3 ⟨n, rfl, hn, hr3, hg3⟩
  have hn' : -1 ≤ n ∧ n ≤ 17 := by simp at hn; omega
  have B3 := Lib.hid (below_grown (Ext.trans B2.out (ext_alloc _ _)) hg3 hg0 (Ext.trans B2.out (ext_alloc _ _)).size)
  have O3 := Lib.hid ((own_ext O2.out (ext_alloc _ _)).keptR (R2.out.ext (ext_alloc _ _)) TN_ne_RD hg3)
  clear hr3 hg3 hn
  go_wp2_with fail
  go_ret3
  exact ⟨n, W, A2, cap2, ts, rfl, hlen, hn', O3.out, B3.out⟩
set_option maxHeartbeats 2000000 in
theorem c_DrawWorkShare (A : Option Addr) (cap : Nat) (bs : List Int) (w : World) (h : In byteR 1 w A bs) (hc : bs.length ≤ cap) (hl : cap ≤ 9223372036854775807) :
    Calls Try.prog 13 #[.slice A bs.length cap] w fun e w' => DrewWk w w' e := by
  go_enter Try.func13, Try.ntmps13
  go_wp2_with fail
  refine (c_DrawWorkOrder A cap bs w h hc hl).mono ?_
  rintro e w2 ⟨n, W, A2, cap2, ts, rfl, hlen, hn', ho2, hb⟩
  have O2 := Lib.hid ho2
  have B2 := Lib.hid hb
  clear ho2 hb h
  go_wp2_with fail
  go_ret3
  exact ⟨n, W, A2, cap2, ts, rfl, hlen, hn', O2.out, B2.out⟩
theorem sum_bd {ns : List Int} {M : Int} (h : ∀ x ∈ ns, 0 ≤ x ∧ x ≤ M) (hM : 0 ≤ M) : 0 ≤ ns.sum ∧ ns.sum ≤ M * ns.length := by
  induction ns with
  | nil => simp
  | cons x xs ih =>
    have h1 := h x (by simp)
    have h2 := ih (fun y hy => h y (List.mem_cons_of_mem _ hy))
    simp only [List.sum_cons, List.length_cons]
    have : M * ((xs.length + 1 : Nat) : Int) = M * (xs.length : Int) + M := by push_cast; rw [Int.mul_add, Int.mul_one]
    omega
set_option maxHeartbeats 2000000 in
theorem c_sum (A : Option Addr) (cap : Nat) (ns : List Int) (w : World) (h : Ints w A ns) (hl : ns.length ≤ 1000) (hb : ∀ x ∈ ns, 0 ≤ x ∧ x ≤ 1000) :
    Calls Try.prog 17 #[.slice A ns.length cap] w fun e w' => e = .returned (.int .i64 ns.sum) ∧ w = w' := by
  have H := Lib.hid h
  have Hb := Lib.hid hb
  clear h hb
  go_enter Try.func17, Try.ntmps17
  go_wp2_with fail
  go_loopw [3, 4] (fun s i wr => ∃ (k : Nat) (t : Int), k ≤ ns.length ∧ i = .int .i64 k ∧ s = .int .i64 t ∧ t = (ns.take k).sum ∧ wr = w) (fun _ i _ => ns.length - (intOf i).toNat)
  case atStart => exact ⟨0, 0, Nat.zero_le _, rfl, rfl, by simp, rfl⟩
  case round =>
    obtain ⟨k, t, hk, rfl, rfl, ht, rfl⟩ := hrel
    have Ht := Lib.hid ht
    have htb : 0 ≤ t ∧ t ≤ 1000000 := by
      have := sum_bd (ns := ns.take k) (M := 1000) (fun x hx => Hb.out x (List.mem_of_mem_take hx)) (by omega)
      rw [← ht, List.length_take] at this
      omega
    clear ht
    by_cases hlt : k < ns.length
    · obtain ⟨b, off, hA, _, hc⟩ := H.out.ints (by omega)
      have cv := hc k hlt
      have hv := Hb.out ns[k] (List.getElem_mem hlt)
      have Hn : Hid ((ns.take (k + 1)).sum = t + ns[k]) := Lib.hid (by rw [List.take_succ_eq_append_getElem hlt, List.sum_append, ← Ht.out]; simp)
      have hkI : (k : Int) < (ns.length : Int) := by omega
      have hkd : decide ((k : Int) < (ns.length : Int)) = true := decide_eq_true hkI
      clear hc
      generalize ns[k] = x at *
      subst hA
      go_wp2
      go_roundw
      case rel => exact ⟨k + 1, t + x, by omega, by go_num, by first | rfl | go_num, Hn.out.symm, by first | rfl | trivial⟩
      case measure => simp [intOf]; omega
    · have hkd : decide ((k : Int) < (ns.length : Int)) = false := decide_eq_false (by omega)
      have hk' : k = ns.length := by omega
      have Hf : Hid (t = ns.sum) := Lib.hid (by rw [Ht.out, hk', List.take_length])
      clear hk'
      go_wp2
      go_ret
      exact ⟨ret_i Hf.out, rfl⟩
set_option maxHeartbeats 2000000 in
theorem c_isIn (A : Option Addr) (cap : Nat) (ns : List Int) (x : Int) (w : World) (h : Ints w A ns) (hl : ns.length ≤ 1000000) (hx : x ∉ ns) :
    Calls Try.prog 12 #[.slice A ns.length cap, .int .i64 x] w fun e w' => e = .returned (.bool false) ∧ w = w' := by
  have H := Lib.hid h
  have Hx := Lib.hid hx
  clear h hx
  go_enter Try.func12, Try.ntmps12
  go_wp2_with fail
  go_loopw [5] (fun i wr => ∃ (k : Nat), k ≤ ns.length ∧ i = .int .i64 k ∧ wr = w) (fun i _ => ns.length - (intOf i).toNat)
  case atStart => exact ⟨0, Nat.zero_le _, rfl, rfl⟩
  case round =>
    obtain ⟨k, hk, rfl, rfl⟩ := hrel
    by_cases hlt : k < ns.length
    · obtain ⟨b, off, hA, _, hc⟩ := H.out.ints (by omega)
      have cv := hc k hlt
      have hne : ns[k] ≠ x := fun hh => Hx.out (by rw [← hh]; exact List.getElem_mem hlt)
      have hkI : (k : Int) < (ns.length : Int) := by omega
      have hkd : decide ((k : Int) < (ns.length : Int)) = true := decide_eq_true hkI
      clear hc
      generalize ns[k] = y at *
      have hyb : (y == x) = false := by simp [hne]
      subst hA
      go_wp2
      go_roundw
      case rel => exact ⟨k + 1, by omega, by go_num, by first | rfl | trivial⟩
      case measure => simp [intOf]; omega
    · have hkd : decide ((k : Int) < (ns.length : Int)) = false := decide_eq_false (by omega)
      go_wp2
      go_ret
      exact ⟨rfl, rfl⟩
end Go.Proofs.Ytnmnomhoghkdjaa
