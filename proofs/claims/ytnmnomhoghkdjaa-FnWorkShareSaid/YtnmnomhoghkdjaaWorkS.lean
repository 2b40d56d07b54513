/-
  The reference's queues of tiles: the walks.
-/
import Derived.Test.YtnmnomhoghkdjaaWorkL
import Derived.Test.YtnmnomhoghkdjaaPair
import Derived.Test.YtnmnomhoghkdjaaColor
import Derived.Test.YtnmnomhoghkdjaaStep
import Derived.Test.YtnmnomhoghkdjaaClone
namespace Go.Proofs.Ytnmnomhoghkdjaa
open Go Go.RowKit Reg
attribute [local go_sem] calmAt calmUpon
theorem intC_len' (n : Int) : (intC n).length = 1 := rfl
theorem intC_one' (n : Int) : ∀ u ∈ intC n, u.oneCell' = true := by intro u hu; simp [intC] at hu; subst hu; rfl
theorem intC_set (xs : List Int) {k : Nat} (hk : k < xs.length) (x : Int) : (xs.flatMap intC).set k (.int .i64 x) = (xs.set k x).flatMap intC := by
  have := setAll_take_drop intC_len' xs hk x
  simpa [setAll, intC] using this
theorem intC_get (xs : List Int) {k : Nat} (hk : k < xs.length) : (xs.flatMap intC)[k]? = some (.int .i64 xs[k]) := by
  have := flat_get intC_len' xs [] k hk 0 (by omega)
  simpa [intC] using this
/-- A queue's slots (address, capacity), its top and its bottom. -/
abbrev Dq := Option Addr × Nat × Int × Int
def dqC (d : Dq) : List Value := [.slice d.1 16 d.2.1, .int .i64 d.2.2.1, .int .i64 d.2.2.2]
abbrev dqV (d : Dq) : Value := .agg #[.slice d.1 16 d.2.1, .int .i64 d.2.2.1, .int .i64 d.2.2.2]
theorem dqC_len (d : Dq) : (dqC d).length = 3 := rfl
theorem dqC_one (d : Dq) : ∀ u ∈ dqC d, u.oneCell' = true := by intro u hu; simp [dqC] at hu; rcases hu with rfl | rfl | rfl <;> rfl
theorem In.far1 {u : Value} {α : Type} {R : World → α → List Value → Prop} {sz : Nat} {w : World} {A : Option Addr} {xs : List α} {p : Addr} (h : In R sz w A xs) (hR : ∀ x us, R w x us → R (w.setCell p u) x us) (hp : ∀ b off, A = some ⟨b, off, none⟩ → b ≠ p.block) : In R sz (w.setCell p u) A xs := by
  intro h0
  obtain ⟨b, off, hA, hk⟩ := h h0
  refine ⟨b, off, hA, fun k hk' => ?_⟩
  obtain ⟨us, q1, q2, q3⟩ := hk k hk'
  refine ⟨us, hR _ _ q1, q2, fun j v hu => ?_⟩
  have := q3 j v hu
  have hbg := hp b off hA
  unfold World.cell? at this ⊢
  rw [Below.heap_setCell w p u b hbg]
  exact this
theorem has_ge {w : World} {B : Nat} {e : TypeId} {sz n cap : Nat} {A : Option Addr} {xs : List Value} (h : Has w B e sz (.slice A n cap) n xs) : ∀ b off, A = some ⟨b, off, none⟩ → B ≤ b := by
  intro b off hA
  subst hA
  exact (h.lt b rfl).1
/-- The queue d has the tiles xs, from the slot 'top' on. -/
def DqAt (w : World) (d : Dq) (top : Nat) (xs : List Int) : Prop :=
  d.2.2.1 = (top : Int) ∧ d.2.2.2 = ((top + xs.length : Nat) : Int) ∧ top + xs.length ≤ 16 ∧ Has w 0 3 1 (.slice d.1 16 d.2.1) 16 ((slotsL top xs).flatMap intC) ∧ (∀ x ∈ xs, 0 ≤ x ∧ x ≤ 99)
theorem DqAt.parts {w : World} {d : Dq} {top : Nat} {xs : List Int} (h : DqAt w d top xs) :
    d.2.2.1 = (top : Int) ∧ d.2.2.2 = ((top + xs.length : Nat) : Int) ∧ top + xs.length ≤ 16 ∧ Ints w d.1 (slotsL top xs) ∧ SlOk d.1 16 d.2.1 ∧ (∀ x ∈ xs, 0 ≤ x ∧ x ≤ 99) := by
  obtain ⟨h1, h2, h3, h4, h5⟩ := h
  have h6 : Has w 0 3 1 (.slice d.1 16 d.2.1) (slotsL top xs).length ((slotsL top xs).flatMap intC) := by rw [slotsL_len h3]; exact h4
  exact ⟨h1, h2, h3, own_in (R := intR) (enc := intC) intC_len' (by decide) h4 (fun _ => rfl), h4.slok, h5⟩
theorem DqAt.ext {w w' : World} {d : Dq} {top : Nat} {xs : List Int} (h : DqAt w d top xs) (hx : Ext w w') : DqAt w' d top xs := by
  obtain ⟨h1, h2, h3, h4, h5⟩ := h
  exact ⟨h1, h2, h3, own_ext h4 hx, h5⟩
theorem DqAt.far {w : World} {d : Dq} {top : Nat} {xs : List Int} (h : DqAt w d top xs) {g i : Nat} (hp : ∀ b off, d.1 = some ⟨b, off, none⟩ → b ≠ g) (u : Value) : DqAt (w.setCell ⟨g, i, none⟩ u) d top xs := by
  obtain ⟨h1, h2, h3, h4, h5⟩ := h
  obtain ⟨g', hA, _, _⟩ := own_at h4 (by omega)
  refine ⟨h1, h2, h3, h4.kept (only_set (only_refl w _) i u) ?_, h5⟩
  rw [hA]
  exact .inr fun hh => by injection hh with hh; exact hp g' 0 hA hh
theorem DqAt.grown {w w' : World} {d : Dq} {top : Nat} {xs : List Int} {B e sz n : Nat} {v : Value} {cs : List Value} (h : DqAt w d top xs) (ho : Has w B e sz v n cs) (he : e ≠ 3) (hg : w.grownBy w' v.ownBlock) : DqAt w' d top xs := by
  obtain ⟨h1, h2, h3, h4, h5⟩ := h
  exact ⟨h1, h2, h3, h4.grownNe ho he hg, h5⟩
def DqIs (w : World) (d : Dq) (xs : List Int) : Prop := ∃ top, DqAt w d top xs
theorem DqIs.ext {w w' : World} {d : Dq} {xs : List Int} (h : DqIs w d xs) (hx : Ext w w') : DqIs w' d xs := by
  obtain ⟨t, h⟩ := h; exact ⟨t, h.ext hx⟩
/-- Queues with their tiles. -/
def DsAre (w : World) (ds : List Dq) (qs : List (List Int)) : Prop := ds.length = qs.length ∧ ∀ (i : Nat) (h1 : i < ds.length) (h2 : i < qs.length), DqIs w ds[i] qs[i]
theorem DsAre.ext {w w' : World} {ds : List Dq} {qs : List (List Int)} (h : DsAre w ds qs) (hx : Ext w w') : DsAre w' ds qs := ⟨h.1, fun i h1 h2 => (h.2 i h1 h2).ext hx⟩
theorem DsAre.grown {w w' : World} {ds : List Dq} {qs : List (List Int)} {B e sz n : Nat} {v : Value} {cs : List Value} (h : DsAre w ds qs) (ho : Has w B e sz v n cs) (he : e ≠ 3) (hg : w.grownBy w' v.ownBlock) : DsAre w' ds qs :=
  ⟨h.1, fun i h1 h2 => by obtain ⟨t, h⟩ := h.2 i h1 h2; exact ⟨t, h.grown ho he hg⟩⟩
theorem DsAre.nil (w : World) : DsAre w [] [] := ⟨rfl, fun i h1 => by simp at h1⟩
theorem DsAre.snoc {w : World} {ds : List Dq} {qs : List (List Int)} {d : Dq} {xs : List Int} (h : DsAre w ds qs) (hd : DqIs w d xs) : DsAre w (ds ++ [d]) (qs ++ [xs]) := by
  refine ⟨by simp [h.1], fun i h1 h2 => ?_⟩
  have hl := h.1
  by_cases hi : i < ds.length
  · rw [List.getElem_append_left hi, List.getElem_append_left (by omega)]
    exact h.2 i hi (by omega)
  · have hi' : i = ds.length := by simp at h1; omega
    subst hi'
    have e1 : (ds ++ [d])[ds.length]'(by simp) = d := by simp
    have e2 : (qs ++ [xs])[ds.length]'(by simp [hl]) = xs := by simp [hl]
    rw [e1, e2]; exact hd
theorem DsAre.set {w : World} {ds : List Dq} {qs : List (List Int)} {d : Dq} {xs : List Int} (h : DsAre w ds qs) (k : Nat) (hd : DqIs w d xs) : DsAre w (ds.set k d) (qs.set k xs) := by
  refine ⟨by simp [h.1], fun i h1 h2 => ?_⟩
  simp only [List.length_set] at h1 h2
  by_cases hi : k = i
  · subst hi; simp; exact hd
  · rw [List.getElem_set_ne hi, List.getElem_set_ne hi]; exact h.2 i h1 h2
theorem NE_DI : (71 : TypeId) ≠ 3 := by decide
theorem ei_dq : EI Try.prog 65 71 (.agg #[.slice none 0 0, .int .i64 0, .int .i64 0]) [.slice none 0 0, .int .i64 0, .int .i64 0] 40 := ei_mk Try.underlying65 (by kernel_rfl) rfl (by decide) (by decide)
set_option maxRecDepth 100000 in
set_option maxHeartbeats 2000000 in
theorem c_empty (w : World) : Calls Try.prog 51 #[] w fun e w' => ∃ A cap, e = .returned (.slice A 16 cap) ∧ Has w' w.heap.size 3 1 (.slice A 16 cap) 16 ((List.replicate 16 (-1 : Int)).flatMap intC) ∧ Below w.heap.size w w' := by
  have E := Lib.hid (Below.refl w.heap.size w)
  go_enter Try.func51, Try.ntmps51
  go_wp2_with fail
  first | refine gen_calls ?_ | refine gen_code ?_ | refine gen_list ?_
  intro w0 hW
  obtain ⟨hb, hR⟩ := new1 hW
  clear hW
  replace E := Lib.hid (Ext.trans E.out hb)
  clear hb
  have R := Lib.hid hR
  have lR := R.out.lt
  clear hR
  have O := Lib.hid (own_of_row (n := 0) (B := w.heap.size) (sz := 1) R.out (Nat.le_refl _) rfl (by decide))
  clear R lR
  go_wp2_with fail
  go_loopw [1, 2] (fun o i wr => ∃ (k : Nat) (A1 : Option Addr) (cap1 : Nat) (xs : List Int), k ≤ 16 ∧ i = .int .i64 k ∧ o = .slice A1 xs.length cap1 ∧ xs = List.replicate k (-1) ∧ Has wr w.heap.size 3 1 (.slice A1 xs.length cap1) xs.length (xs.flatMap intC) ∧ Below w.heap.size w wr) (fun _ i _ => 16 - (intOf i).toNat)
  case atStart => exact ⟨0, _, 0, [], Nat.zero_le _, rfl, rfl, rfl, O.out, E.out⟩
  case round =>
    obtain ⟨k, A1, cap1, xs, hk, rfl, rfl, hxs, hor, hbw⟩ := hrel
    clear O E
    have O := Lib.hid hor
    have E := Lib.hid hbw
    have hzr : w.heap.size ≤ wr.heap.size := hbw.size
    have hxl : xs.length ≤ 16 := by rw [hxs]; simp; omega
    have Hxs := Lib.hid hxs
    clear hor hbw hxs
    by_cases hlt : k < 16
    · have hltI : decide ((k : Int) < 16) = true := by simp; omega
      have Hn : Hid (xs ++ [-1] = List.replicate (k + 1) (-1)) := Lib.hid (by rw [Hxs.out, List.replicate_succ']  )
      go_wp2_with (at_builtin; refine wpList_app (base := w.heap.size) ei_int rfl (.tmp 8) (.tmp 9) rfl rfl (own_ext O.out (ext_alloc _ _)) rfl (src_new _ _ [_] (m := 1) rfl (by intro u hu; simp only [List.mem_cons, List.not_mem_nil, or_false] at hu; subst hu; rfl)) (by omega) (by simp; omega) ?_; intro ve w3 hown hg hat; refine stop_in ?_)
      refine stop_out ?_
      obtain ⟨A3, cap3, hve⟩ := own_form hown
      replace E := Lib.hid (Below.grown (Ext.trans E.out (ext_alloc _ _)) hg (by simp; omega) (fun k hk => by have := (O.out.lt k hk).1; omega))
      have heq : xs ++ [(-1)] = (xs ++ [(-1)]) := rfl
      replace O : Hid (Has w3 w.heap.size 3 1 (.slice A3 ((xs ++ [(-1)])).length cap3) ((xs ++ [(-1)])).length (((xs ++ [(-1)])).flatMap intC)) := Lib.hid (by
        have q := hown
        rw [hve] at q
        rw [← heq, List.flatMap_append, List.length_append]
        exact q)
      have hvf : ve = .slice A3 ((xs ++ [(-1)])).length cap3 := by rw [hve, ← heq, List.length_append]; rfl
      clear hve
      clear hown hg hat heq
      subst hvf
      go_wp2
      go_roundw
      case rel => exact ⟨k + 1, A3, cap3, _, by omega, by go_num, rfl, Hn.out, O.out, E.out⟩
      case measure => simp [intOf]; omega
    · have hltI : decide ((k : Int) < 16) = false := by simp; omega
      have hk' : k = 16 := by omega
      have Hf : Hid (xs = List.replicate 16 (-1)) := Lib.hid (by rw [Hxs.out, hk'])
      have Hl : Hid (xs.length = 16) := Lib.hid (by rw [Hf.out]; simp)
      clear hk'
      go_wp2
      go_ret
      refine ⟨A1, cap1, by rw [Hl.out]; rfl, ?_, E.out⟩
      have := O.out
      rw [Hl.out] at this
      rw [← Hf.out]
      exact this
set_option maxHeartbeats 2000000 in
theorem c_copyInts (A : Option Addr) (cap : Nat) (ns : List Int) (w : World) (h : Ints w A ns) (hl : ns.length ≤ 1000000) :
    Calls Try.prog 56 #[.slice A ns.length cap] w fun e w' => ∃ A' cap', e = .returned (.slice A' ns.length cap') ∧ Has w' w.heap.size 3 1 (.slice A' ns.length cap') ns.length (ns.flatMap intC) ∧ Below w.heap.size w w' := by
  have H := Lib.hid h
  clear h
  go_enter Try.func56, Try.ntmps56
  have O : Hid (Has (w.alloc (.cells #[] 3)) w.heap.size 3 1 (.slice (some ⟨w.heap.size, 0, none⟩) 0 0) 0 []) := Lib.hid (own_of_row (n := 0) (sz := 1) (cs := []) (Row.new w 3 []) (Nat.le_refl _) rfl (by decide))
  have E1 : Hid (Ext w (w.alloc (.cells #[] 3))) := Lib.hid (ext_alloc w _)
  have S := Lib.hid ((H.out.ext intR_stab E1.out).src intC_len' (fun x us h => h) intC_one' (by decide))
  go_wp2_with (at_builtin; refine wpList_app (base := w.heap.size) ei_int rfl (.tmp 3) (.tmp 4) rfl rfl O.out rfl S.out (by omega) (by simp) ?_; intro v5 w5 hown hg hat; refine stop_in ?_)
  refine stop_out ?_
  obtain ⟨A5, cap5, hv5⟩ := own_form hown
  have E5 := Lib.hid (own_below E1.out O.out hg (by simp))
  rw [Nat.zero_add] at hown hv5
  rw [List.nil_append] at hown
  subst hv5
  have O5 := Lib.hid hown
  clear hown hg hat
  go_wp2
  go_ret
  exact ⟨A5, cap5, rfl, O5.out, E5.out⟩
set_option maxHeartbeats 2000000 in
theorem c_withSlot (A : Option Addr) (cap : Nat) (ns : List Int) (k : Nat) (x : Int) (w : World) (h : Ints w A ns) (hl : ns.length = 16) (hk : k < 16) :
    Calls Try.prog 53 #[.slice A 16 cap, .int .i64 k, .int .i64 x] w fun e w' => ∃ A' cap', e = .returned (.slice A' 16 cap') ∧ Has w' w.heap.size 3 1 (.slice A' 16 cap') 16 ((ns.set k x).flatMap intC) ∧ Below w.heap.size w w' := by
  have E := Lib.hid (Below.refl w.heap.size w)
  have K := Lib.hid (c_copyInts A cap ns w h (by omega))
  rw [hl] at K
  have Hl := Lib.hid hl
  have hm : Int.tmod (k : Int) 16 = (k : Int) := by have := tmod_nat k 16; rw [Nat.mod_eq_of_lt hk] at this; exact this
  clear h hl
  go_enter Try.func53, Try.ntmps53
  go_wp2_with fail
  refine (K.out).mono ?_
  rintro e w1 ⟨A1, cap1, rfl, ho1, hb⟩
  replace E := Lib.hid (Ext.trans E.out hb)
  clear hb
  have O := Lib.hid (ho1)
  clear ho1
  obtain ⟨g, rfl, hg1, hg2⟩ := own_at O.out (by omega)
  have ce := O.out.cellAt k (by omega)
  rw [intC_get ns (by have := Hl.out; omega)] at ce
  have fe := O.out.frozenAt k
  have St := Lib.hid (O.out.stored k (.int .i64 x)).1
  rw [intC_set ns (by have := Hl.out; omega)] at St
  go_wp2
  go_ret
  exact ⟨_, cap1, rfl, St.out, E.out.setCell (by simpa using hg1) _⟩
set_option maxRecDepth 100000 in
set_option maxHeartbeats 2000000 in
theorem c_filled (d : Dq) (top : Nat) (xs : List Int) (w : World) (h : DqAt w d top xs) : Calls Try.prog 55 #[dqV d] w fun e w' => e = .returned (.bool true) ∧ Below w.heap.size w w' := by
  obtain ⟨A, c, t, b⟩ := d
  obtain ⟨rfl, rfl, hle, hI, hs, hb⟩ := h.parts
  clear h
  obtain ⟨bn, hbn⟩ : ∃ bn, bn = top + xs.length := ⟨_, rfl⟩
  have Hsl := Lib.hid (slotsL_bd hle hb)
  have hl16 := slotsL_len hle
  try dsimp only at hI
  try dsimp only
  rw [← hbn]
  rw [← hbn] at Hsl hle
  clear hs hb
  generalize slotsL top xs = ns at *
  have htb : top ≤ bn := by omega
  clear hbn
  have H := Lib.hid hI
  have Hl := Lib.hid hl16
  have E := Lib.hid (Below.refl w.heap.size w)
  clear hI hl16
  go_enter Try.func55, Try.ntmps55
  go_wp2_with fail
  first | refine gen_calls ?_ | refine gen_code ?_ | refine gen_list ?_
  intro w0 hW
  obtain ⟨hb, hD⟩ := new1 hW
  clear hW
  replace E := Lib.hid (Ext.trans E.out hb)
  replace H := Lib.hid (H.out.ext intR_stab hb)
  clear hb
  have D := Lib.hid hD
  have lD := D.out.lt
  clear hD
  go_wp2_with fail
  go_loopw [3, 4, 5] (fun i _ _ wr => ∃ k : Nat, k ≤ 16 ∧ i = .int .i64 k ∧ Ext w0 wr) (fun i _ _ _ => 16 - (intOf i).toNat)
  case atStart => exact ⟨0, Nat.zero_le _, rfl, Below.refl _ _⟩
  case round =>
    obtain ⟨k, hk, rfl, hbw⟩ := hrel
    have X := Lib.hid hbw
    clear hbw
    by_cases hlt : k < 16
    · have hltI : decide ((k : Int) < 16) = true := by simp; omega
      obtain ⟨D1, hD1⟩ : ∃ D1 : Hid (Row wr w.heap.size _ _), D1 = Lib.hid (D.out.ext X.out) := ⟨_, rfl⟩
      clear hD1
      obtain ⟨wo, hwo⟩ : ∃ wo : World, wo = wr := ⟨_, rfl⟩
      subst hwo
      have d0 := D1.out.cell_of (i := 0) rfl
      have d1 := D1.out.cell_of (i := 1) rfl
      have d2 := D1.out.cell_of (i := 2) rfl
      go_wp2_with fail
      go_loopw [4, 5] (fun u n wr => ∃ m : Nat, top ≤ m ∧ m ≤ bn ∧ n = .int .i64 m ∧ u = .bool (decide (top ≤ k ∧ k < m)) ∧ wr = wo) (fun _ n _ => bn - (intOf n).toNat)
      case atStart => exact ⟨top, Nat.le_refl _, htb, rfl, by simp, rfl⟩
      case round =>
        obtain ⟨m, hm1, hm2, rfl, rfl, rfl⟩ := hrel
        by_cases hlm : m < bn
        · have hlmI : decide ((m : Int) < (bn : Int)) = true := by simp; omega
          have hmm : Int.tmod (m : Int) 16 = (m : Int) := by have := tmod_nat m 16; rw [Nat.mod_eq_of_lt (by omega)] at this; exact this
          have Hq : Hid (decide (top ≤ k ∧ k < m + 1) = (decide (top ≤ k ∧ k < m) || ((m : Int) == (k : Int)))) := Lib.hid (by rw [Bool.eq_iff_iff]; simp; omega)
          generalize decide (top ≤ k ∧ k < m) = q at *
          cases q
          · go_wp2
            go_roundw
            case rel => exact ⟨m + 1, by omega, by omega, by go_num, by rw [Hq.out]; simp, trivial⟩
            case measure => simp [intOf]; omega
          · go_wp2
            go_roundw
            case rel => exact ⟨m + 1, by omega, by omega, by go_num, by rw [Hq.out]; simp, trivial⟩
            case measure => simp [intOf]; omega
        · obtain rfl : m = bn := by omega
          have hlmI : decide ((m : Int) < (m : Int)) = false := by simp
          obtain ⟨b, off, hA, _, hc⟩ := (H.out.ext intR_stab X.out).ints (by have := Hl.out; omega)
          have ck := hc k (by have := Hl.out; omega)
          have hsl := (Hsl.out k (by have := Hl.out; omega)).2
          generalize hs : ns[k]'(by have := Hl.out; omega) = s at *
          clear hs hc
          subst hA
          by_cases hq : top ≤ k ∧ k < m
          · have h0 : 0 ≤ s := hsl.2 hq
            have hqd : decide (top ≤ k ∧ k < m) = true := by simp [hq]
            rw [hqd]
            clear hqd hsl hq
            go_wp2
            go_roundw
            case rel => exact ⟨k + 1, by omega, by go_num, X.out⟩
            case measure => simp [intOf]; omega
          · have h0 : ¬ 0 ≤ s := fun h => hq (hsl.1 h)
            have hqd : decide (top ≤ k ∧ k < m) = false := by simp [hq]
            rw [hqd]
            clear hqd hsl hq
            go_wp2
            go_roundw
            case rel => exact ⟨k + 1, by omega, by go_num, X.out⟩
            case measure => simp [intOf]; omega
    · have hltI : decide ((k : Int) < 16) = false := by simp; omega
      go_wp2
      go_ret
      exact ⟨rfl, Ext.trans E.out X.out⟩
end Go.Proofs.Ytnmnomhoghkdjaa
