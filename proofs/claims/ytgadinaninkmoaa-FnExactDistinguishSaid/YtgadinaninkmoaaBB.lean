import Derived.Test.YtgadinaninkmoaaQ1
import Derived.Test.YtgadinaninkmoaaV2
namespace Go.Proofs.Ytgadinaninkmoaa
set_option linter.unusedVariables false
set_option linter.unusedSimpArgs false
open Go.RowKit

/-! []bool and [][]bool: copies, comparisons, marks. -/

def jota (k : Int) (n : Nat) : List Bool := (List.range n).map fun (i : Nat) => ((k + i) % 3 == 0)
theorem jota_length (k : Int) (n : Nat) : (jota k n).length = n := by simp [jota]
theorem jota_get {k : Int} {n j : Nat} (h : j < n) : (jota k n)[j]? = some (((k + j) % 3 == 0)) := by simp [jota, h]

theorem eqBoolS_any (s t : Option Addr) (xs ys : List Bool) (cap cap2 : Nat) (w : World) (hs : Sl w s (bools xs)) (ht : Sl w t (bools ys)) (hl : xs.length ≤ 1048576) (hl2 : ys.length ≤ 1048576) :
    Calls Try.prog 50 #[.slice s xs.length cap, .slice t ys.length cap2] w fun e w' => e = .returned (.bool (decide (xs = ys))) ∧ Drew w w' := by
  have HS : Hid (Sl w s (bools xs) ∧ Sl w t (bools ys)) := ⟨hs, ht⟩
  clear hs ht
  by_cases hc : xs.length = ys.length
  · rw [← hc]
    generalize hn : xs.length = n at hc hl ⊢
    have HC : Hid (xs.length = n ∧ ys.length = n) := ⟨hn, hc.symm⟩
    clear hc hn hl2
    go_enter Try.func50, Try.ntmps50
    go_wp2
    go_loopw [5] (fun i wr => ∃ k : Nat, k ≤ n ∧ i = .int .i64 k ∧ xs.take k = ys.take k ∧ Drew w wr) (fun i _ => n - (intOf i).toNat)
    case atStart => exact ⟨0, Nat.zero_le _, rfl, rfl, Drew.refl _⟩
    case round =>
      obtain ⟨k, hk, rfl, htk, hd⟩ := hrel
      have HT : Hid (xs.take k = ys.take k) := htk
      have HD := Lib.hid hd
      clear htk hd
      by_cases hlt : k < n
      · obtain ⟨x, hx⟩ := get_of_lt (l := xs) (k := k) (by have := HC.out; omega)
        obtain ⟨y, hy⟩ := get_of_lt (l := ys) (k := k) (by have := HC.out; omega)
        obtain ⟨b, off, rfl, hbw, hz⟩ := HS.out.1.bool (HD.out.below _) hx
        obtain ⟨b2, off2, rfl, hbw2, hz2⟩ := HS.out.2.bool (HD.out.below _) hy
        have HR : Hid (_ ∧ _) := Lib.hid ⟨hx, hy⟩
        clear hx hy
        go_wp2
        go_quiet (fail)
        go_wp2
        all_goals obtain ⟨hx, hy⟩ := HR.out
        all_goals first
          | (go_roundw
             case rel => exact ⟨k + 1, by omega, by go_num, by rw [List.take_add_one, List.take_add_one, HT.out, hx, hy]; simp at *; assumption, HD.out.n _⟩
             case measure => simp [intOf]; omega)
          | (go_ret
             refine ⟨ret_bool ?_, HD.out.n _⟩
             symm; rw [decide_eq_false_iff_not]; intro e; subst e; rw [hx] at hy; cases hy; simp_all)
      · obtain rfl : k = n := by omega
        have he : decide (xs = ys) = true := by
          have h1 := HT.out
          rw [List.take_of_length_le (by have := HC.out; omega), List.take_of_length_le (by have := HC.out; omega)] at h1
          simpa using h1
        have HE := Lib.hid he
        clear he
        go_wp2
        go_ret
        exact ⟨ret_bool HE.out.symm, HD.out⟩
  · have hd : decide (xs = ys) = false := by simp; intro e; exact hc (by rw [e])
    rw [hd]
    clear hd
    go_enter Try.func50, Try.ntmps50
    go_wp2
    go_ret
    exact ⟨rfl, Drew.refl _⟩

/-- A slice of slices of Booleans reads as these rows. -/
def SlB (w : World) (s : Option Addr) (rows : List (List Bool)) : Prop :=
  ∃ vs : List Value, vs.length = rows.length ∧ Sl w s vs ∧ ∀ (i : Nat) (r : List Bool), rows[i]? = some r → ∃ si ci, vs[i]? = some (Value.slice si r.length ci) ∧ Sl w si (bools r)

theorem SlB.row {w wr : World} {s : Option Addr} {rows : List (List Bool)} (h : SlB w s rows) (hbl : Below w.heap.size w wr) {k : Nat} {r : List Bool} (hr : rows[k]? = some r) :
    ∃ b off si ci, s = some ⟨b, off, none⟩ ∧ b < w.heap.size ∧ wr.cell? ⟨b, off + k, none⟩ = some (.slice si r.length ci) ∧ Sl w si (bools r) := by
  obtain ⟨vs, hv, hs, hrow⟩ := h
  obtain ⟨si, ci, hvk, hsi⟩ := hrow k r hr
  obtain ⟨b, off, rfl, hbw, hcs⟩ := hs.at (k := k) (List.getElem?_eq_some_iff.1 hvk).1
  exact ⟨b, off, si, ci, rfl, hbw, by rw [hbl.cell (by exact hbw)]; exact hcs _ _ hvk, hsi⟩
theorem SlB.mono {w w' : World} {s : Option Addr} {rows : List (List Bool)} (h : SlB w s rows) (hb : Below w.heap.size w w') : SlB w' s rows := by
  obtain ⟨vs, hv, hs, hrow⟩ := h
  exact ⟨vs, hv, hs.mono hb, fun i r hr => let ⟨si, ci, h1, h2⟩ := hrow i r hr; ⟨si, ci, h1, h2.mono hb⟩⟩

def lenB (rows : List (List Bool)) : Int := (rows.map (fun r => (r.length : Int))).sum
theorem lenB_nil : lenB [] = 0 := rfl
theorem lenB_snoc {rows : List (List Bool)} {k : Nat} {r : List Bool} (h : rows[k]? = some r) : lenB (rows.take (k + 1)) = lenB (rows.take k) + r.length := by
  unfold lenB; rw [List.take_add_one, h]; simp
theorem lenB_nonneg (rows : List (List Bool)) : 0 ≤ lenB rows := by
  induction rows with
  | nil => simp [lenB]
  | cons r rows ih => unfold lenB at *; simp; omega
theorem lenB_take_le (rows : List (List Bool)) (k : Nat) : lenB (rows.take k) ≤ lenB rows := by
  have h := List.take_append_drop k rows
  have : lenB rows = lenB (rows.take k) + lenB (rows.drop k) := by
    conv => lhs; rw [← h]
    unfold lenB; rw [List.map_append, List.sum_append]
  have := lenB_nonneg (rows.drop k); omega

set_option maxHeartbeats 400000 in
theorem eqBoolSS_any (s t : Option Addr) (xs ys : List (List Bool)) (cap cap2 : Nat) (w : World) (hs : SlB w s xs) (ht : SlB w t ys) (hl : xs.length ≤ 1048576) (hl2 : ys.length ≤ 1048576) (hr : ∀ r ∈ xs, r.length ≤ 1048576) (hr2 : ∀ r ∈ ys, r.length ≤ 1048576) :
    Calls Try.prog 27 #[.slice s xs.length cap, .slice t ys.length cap2] w fun e w' => e = .returned (.bool (decide (xs = ys))) ∧ Drew w w' := by
  have HS : Hid ((SlB w s xs ∧ SlB w t ys) ∧ (∀ r ∈ xs, r.length ≤ 1048576) ∧ ∀ r ∈ ys, r.length ≤ 1048576) := ⟨⟨hs, ht⟩, hr, hr2⟩
  clear hs ht hr hr2
  by_cases hc : xs.length = ys.length
  · rw [← hc]
    generalize hn : xs.length = n at hc hl ⊢
    have HC : Hid (xs.length = n ∧ ys.length = n) := ⟨hn, hc.symm⟩
    clear hc hn hl2
    go_enter Try.func27, Try.ntmps27
    go_wp2
    go_loopw [5] (fun i wr => ∃ k : Nat, k ≤ n ∧ i = .int .i64 k ∧ xs.take k = ys.take k ∧ Drew w wr) (fun i _ => n - (intOf i).toNat)
    case atStart => exact ⟨0, Nat.zero_le _, rfl, rfl, Drew.refl _⟩
    case round =>
      obtain ⟨k, hk, rfl, htk, hd⟩ := hrel
      have HT : Hid (xs.take k = ys.take k) := htk
      have HD := Lib.hid hd
      clear htk hd
      by_cases hlt : k < n
      · obtain ⟨x, hx⟩ := get_of_lt (l := xs) (k := k) (by have := HC.out; omega)
        obtain ⟨y, hy⟩ := get_of_lt (l := ys) (k := k) (by have := HC.out; omega)
        obtain ⟨b, off, sx, cx, rfl, hbw, hz, hsx⟩ := HS.out.1.1.row (HD.out.below _) hx
        obtain ⟨b2, off2, sy, cy, rfl, hbw2, hz2, hsy⟩ := HS.out.1.2.row (HD.out.below _) hy
        have hlx := HS.out.2.1 x (List.mem_of_getElem? hx)
        have hly := HS.out.2.2 y (List.mem_of_getElem? hy)
        have HX : ∀ m, Sl (wr.drewN m) sx (bools x) ∧ Sl (wr.drewN m) sy (bools y) := fun m => ⟨hsx.mono ((HD.out.n m).below _), hsy.mono ((HD.out.n m).below _)⟩
        have HR : Hid (_ ∧ _ ∧ ∀ m, Sl (wr.drewN m) sx (bools x) ∧ Sl (wr.drewN m) sy (bools y)) := Lib.hid ⟨hx, hy, HX⟩
        clear hx hy hsx hsy HX
        go_wp2_with fail
        go_quiet ((go_at_call 50; exact Calls.quiet_of (eqBoolS_any _ _ _ _ _ _ _ (HR.out.2.2 _).1 (HR.out.2.2 _).2 hlx hly)))
        go_wp2
        all_goals obtain ⟨hx, hy, _⟩ := HR.out
        all_goals first
          | (go_roundw
             case rel => exact ⟨k + 1, by omega, by go_num, by rw [List.take_add_one, List.take_add_one, HT.out, hx, hy]; simp at *; assumption, HD.out.n _⟩
             case measure => simp [intOf]; omega)
          | (go_ret
             refine ⟨ret_bool ?_, HD.out.n _⟩
             symm; rw [decide_eq_false_iff_not]; intro e; subst e; rw [hx] at hy; simp at *; contradiction)
      · obtain rfl : k = n := by omega
        have he : decide (xs = ys) = true := by
          have h1 := HT.out
          rw [List.take_of_length_le (by have := HC.out; omega), List.take_of_length_le (by have := HC.out; omega)] at h1
          simpa using h1
        have HE := Lib.hid he
        clear he
        go_wp2
        go_ret
        exact ⟨ret_bool HE.out.symm, HD.out⟩
  · have hd : decide (xs = ys) = false := by simp; intro e; exact hc (by rw [e])
    rw [hd]
    clear hd
    go_enter Try.func27, Try.ntmps27
    go_wp2
    go_ret
    exact ⟨rfl, Drew.refl _⟩

set_option maxHeartbeats 400000 in
theorem markBoolS_any (base : Nat) (s : Option Addr) (n cap : Nat) (xs : List Bool) (k : Int) (w : World) (h : w.ownsRow base 4 1 (.slice s n cap) n (bools xs)) (hn : n ≤ 1048576) (hk : 0 ≤ k) (hk2 : k ≤ 100000000) :
    Calls Try.prog 52 #[.slice s n cap, .int .i64 k] w fun e w' => e = .returned (.int .i64 (k + n)) ∧ w'.ownsRow base 4 1 (.slice s n cap) n (bools (jota k n)) ∧ w.grownBy w' (Value.slice s n cap).ownBlock := by
  rcases own_some h with ⟨rfl, rfl, rfl⟩ | ⟨g, rfl⟩
  · have HO := Lib.hid h
    clear h
    go_enter Try.func52, Try.ntmps52
    go_wp2_with fail
    refine wp_loop_rounds 1 ?_
    rw [rounds_succ]
    go_wp2
    go_ret
    exact ⟨ret_int (by simp), World.ownsRow_nil _ _ _ _, World.grownBy.refl _ _⟩
  · have HO := Lib.hid h
    clear h
    go_enter Try.func52, Try.ntmps52
    go_wp2_with fail
    go_loopw [1, 5] (fun v1 i wr => ∃ (j : Nat) (ys : List Value), j ≤ n ∧ i = .int .i64 j ∧ v1 = .int .i64 (k + j) ∧ (∀ q, q < j → ys[q]? = some (.bool (((k + q) % 3 == 0)))) ∧ wr.ownsRow base 4 1 (.slice (some ⟨g, 0, none⟩) n cap) n ys ∧ w.grownBy wr (some g)) (fun _ i _ => n - (intOf i).toNat)
    case atStart => exact ⟨0, _, Nat.zero_le _, rfl, by simp, fun q hq => by omega, HO.out, World.grownBy.refl _ _⟩
    case round =>
      obtain ⟨j, ys, hj, rfl, rfl, hy, ho, hg⟩ := hrel
      have hlen : ys.length = n := by simpa using ho.1
      by_cases hlt : j < n
      · obtain ⟨y, hyj⟩ := get_of_lt (l := ys) (k := j) (by omega)
        have hc : wr.cell? ⟨g, j, none⟩ = some y := (ho.cellAt j (by omega)).trans hyj
        have hf : wr.frozen? ⟨g, j, none⟩ = false := ho.frozenAt j
        have HR := Lib.hid (And.intro hy (And.intro ho (And.intro hg hlen)))
        clear hy ho hg hlen hyj
        go_wp2
        obtain ⟨hy, ho, hg, hlen⟩ := HR.out
        obtain ⟨h1, h2⟩ := ho.stored j (.bool (((k + j) % 3 == 0)))
        go_roundw
        case rel =>
          refine ⟨j + 1, _, by omega, by go_num, by go_num, fun q hq => ?_, h1, hg.trans h2⟩
          by_cases e : q = j
          · subst e; simp [hlen, hlt]
          · rw [List.getElem?_set_ne (Ne.symm e)]; exact hy q (by omega)
        case measure => simp [intOf]; omega
      · obtain rfl : j = n := by omega
        have e : ys = bools (jota k j) := by
          apply List.ext_getElem?
          intro q
          by_cases hq : q < j
          · rw [hy q hq, bools_get (jota_get hq)]
          · rw [List.getElem?_eq_none (by omega), List.getElem?_eq_none (by rw [bools_length, jota_length]; omega)]
        subst e
        have HR := Lib.hid (And.intro ho hg)
        clear ho hg hy hlen
        go_wp2
        go_ret
        exact ⟨rfl, HR.out.1, HR.out.2⟩

set_option maxHeartbeats 400000 in
theorem heldBoolS_any (s : Option Addr) (n cap : Nat) (k : Int) (w : World) (h : Sl w s (bools (jota k n))) (hn : n ≤ 1048576) (hk : 0 ≤ k) (hk2 : k ≤ 100000000) :
    Calls Try.prog 53 #[.slice s n cap, .int .i64 k] w fun e w' => e = .returned (.int .i64 (k + n)) ∧ Drew w w' := by
  have HS := Lib.hid h
  clear h
  go_enter Try.func53, Try.ntmps53
  go_wp2_with fail
  go_loopw [1, 5] (fun v1 i wr => ∃ j : Nat, j ≤ n ∧ i = .int .i64 j ∧ v1 = .int .i64 (k + j) ∧ Drew w wr) (fun _ i _ => n - (intOf i).toNat)
  case atStart => exact ⟨0, Nat.zero_le _, rfl, by simp, Drew.refl _⟩
  case round =>
    obtain ⟨j, hj, rfl, rfl, hd⟩ := hrel
    by_cases hlt : j < n
    · obtain ⟨b, off, rfl, hbw, hz⟩ := HS.out.bool (hd.below _) (jota_get hlt)
      have HD := Lib.hid hd
      clear hd
      go_wp2_with fail
      go_roundw
      case rel => exact ⟨j + 1, by omega, by go_num, by go_num, by first | exact HD.out | exact HD.out.n _⟩
      case measure => simp [intOf]; omega
    · obtain rfl : j = n := by omega
      have HD := Lib.hid hd
      clear hd
      go_wp2
      go_ret
      exact ⟨rfl, HD.out⟩

/-- Rows of Booleans that the call made: each in a block of its own. -/
structure OwnSB (w : World) (base : Nat) (v : Value) (vs : List Value) (rows : List (List Bool)) : Prop where
  out : w.ownsRow base 44 1 v rows.length vs
  row : ∀ (i : Nat) (u : Value) (r : List Bool), vs[i]? = some u → rows[i]? = some r → w.ownsRow base 4 1 u r.length (bools r)
  inj : ∀ (i j : Nat) (u u' : Value) (k : Nat), vs[i]? = some u → vs[j]? = some u' → u.ownBlock = some k → u'.ownBlock = some k → i = j
theorem OwnSB.len {w : World} {base : Nat} {v : Value} {vs : List Value} {rows : List (List Bool)} (h : OwnSB w base v vs rows) : vs.length = rows.length := by simpa using h.out.1
theorem OwnSB.get {w : World} {base : Nat} {v : Value} {vs : List Value} {rows : List (List Bool)} (h : OwnSB w base v vs rows) {i : Nat} {r : List Bool} (hr : rows[i]? = some r) : ∃ u, vs[i]? = some u :=
  get_of_lt (by rw [h.len]; exact (List.getElem?_eq_some_iff.1 hr).1)
theorem OwnSB.rget {w : World} {base : Nat} {v : Value} {vs : List Value} {rows : List (List Bool)} (h : OwnSB w base v vs rows) {i : Nat} {u : Value} (hu : vs[i]? = some u) : ∃ r, rows[i]? = some r :=
  get_of_lt (by rw [← h.len]; exact (List.getElem?_eq_some_iff.1 hu).1)
theorem OwnSB.slb {w : World} {base : Nat} {s : Option Addr} {c : Nat} {vs : List Value} {rows : List (List Bool)} (h : OwnSB w base (.slice s rows.length c) vs rows) : SlB w s rows := by
  refine ⟨vs, h.len, own_sl h.out, fun i r hr => ?_⟩
  obtain ⟨u, hu⟩ := h.get hr
  have ho := h.row i u r hu hr
  obtain ⟨si, ci, rfl⟩ := own_shape ho
  exact ⟨si, ci, hu, own_sl ho⟩
theorem OwnSB.below {w w' : World} {base : Nat} {v : Value} {vs : List Value} {rows : List (List Bool)} (h : OwnSB w base v vs rows) (hb : Below w.heap.size w w') : OwnSB w' base v vs rows :=
  ⟨own_below h.out hb, fun i u r h1 h2 => own_below (h.row i u r h1 h2) hb, h.inj⟩
theorem OwnSB.nil (w : World) (base : Nat) : OwnSB w base (.slice none 0 0) [] [] := ⟨World.ownsRow_nil _ _ _ _, by simp, by simp⟩
theorem OwnSB.chg {S : Nat → Prop} {w w' : World} {base : Nat} {v : Value} {vs : List Value} {rows : List (List Bool)} (h : OwnSB w base v vs rows) (hc : Chg S w w') (hs : ∀ k, base ≤ k → ¬ S k) : OwnSB w' base v vs rows :=
  ⟨hc.own h.out (fun k hk => hs k (own_blk h.out hk).1), fun i u r h1 h2 => hc.own (h.row i u r h1 h2) (fun k hk => hs k (own_blk (h.row i u r h1 h2) hk).1), h.inj⟩
/-- One row more. -/
theorem OwnSB.push {w w2 : World} {base : Nat} {v v' u : Value} {vs : List Value} {rows : List (List Bool)} {r : List Bool} (h : OwnSB w base v vs rows) (hu : w.ownsRow base 4 1 u r.length (bools r))
    (hne : ∀ (k : Nat) (u' : Value), u.ownBlock = some k → u' ∈ vs → u'.ownBlock ≠ some k) (hg : w.grownBy w2 v.ownBlock) (ho : w2.ownsRow base 44 1 v' (rows.length + 1) (vs ++ [u])) : OwnSB w2 base v' (vs ++ [u]) (rows ++ [r]) := by
  have keep : ∀ (u : Value) (r : List Bool), w.ownsRow base 4 1 u r.length (bools r) → w2.ownsRow base 4 1 u r.length (bools r) := fun u r hb =>
    (Chg.of_grown hg).own hb (fun k hk e => own_ty hb h.out (by decide) hk e)
  refine ⟨by simpa using ho, fun i x q h1 h2 => ?_, fun i j x x' k h1 h2 h3 h4 => ?_⟩
  · by_cases hlt : i < rows.length
    · rw [List.getElem?_append_left (by rw [h.len]; exact hlt)] at h1
      rw [List.getElem?_append_left hlt] at h2
      exact keep x q (h.row i x q h1 h2)
    · rw [List.getElem?_append_right (by rw [h.len]; omega), h.len] at h1
      rw [List.getElem?_append_right (by omega)] at h2
      obtain ⟨e, rfl⟩ : i - rows.length = 0 ∧ x = u := by
        cases hh : i - rows.length with
        | zero => rw [hh] at h1; simp at h1; exact ⟨rfl, h1.symm⟩
        | succ m => rw [hh] at h1; simp at h1
      rw [e] at h2
      simp at h2
      subst h2
      exact keep _ _ hu
  · have mem : ∀ (i : Nat) (x : Value), (vs ++ [u])[i]? = some x → (i < vs.length ∧ vs[i]? = some x) ∨ (i = vs.length ∧ x = u) := fun i x hx => by
      by_cases hlt : i < vs.length
      · rw [List.getElem?_append_left hlt] at hx; exact .inl ⟨hlt, hx⟩
      · rw [List.getElem?_append_right (by omega)] at hx
        cases hh : i - vs.length with
        | zero => rw [hh] at hx; simp at hx; exact .inr ⟨by omega, hx.symm⟩
        | succ m => rw [hh] at hx; simp at hx
    rcases mem i x h1 with ⟨l1, e1⟩ | ⟨l1, e1⟩ <;> rcases mem j x' h2 with ⟨l2, e2⟩ | ⟨l2, e2⟩
    · exact h.inj i j x x' k e1 e2 h3 h4
    · subst e2; exact absurd h3 (hne k x h4 (List.mem_of_getElem? e1))
    · subst e1; exact absurd h4 (hne k x' h3 (List.mem_of_getElem? e2))
    · omega

def markB : Int → List (List Bool) → List (List Bool)
  | _, [] => []
  | k, r :: rs => jota k r.length :: markB (k + r.length) rs
theorem markB_length : ∀ (k : Int) (rows : List (List Bool)), (markB k rows).length = rows.length
  | _, [] => rfl
  | k, r :: rs => by simp [markB, markB_length (k + r.length) rs]
theorem markB_get : ∀ {k : Int} {rows : List (List Bool)} {i : Nat} {r : List Bool}, rows[i]? = some r → (markB k rows)[i]? = some (jota (k + lenB (rows.take i)) r.length)
  | _, [], _, _, h => by simp at h
  | k, q :: rs, 0, r, h => by simp at h; subst h; simp [markB, lenB]
  | k, q :: rs, i + 1, r, h => by
    have := markB_get (k := k + q.length) (rows := rs) (i := i) (r := r) (by simpa using h)
    simp only [markB, List.getElem?_cons_succ, this, List.take_succ_cons]
    congr 2
    unfold lenB; simp; omega
theorem lenB_tk (rows : List (List Bool)) (hr : ∀ r ∈ rows, r.length ≤ 1000) : ∀ j, lenB (rows.take j) ≤ 1000 * j := fun j => by
  induction j with
  | zero => simp [lenB]
  | succ j ih =>
    by_cases hj : j < rows.length
    · obtain ⟨r, hrj⟩ := get_of_lt hj
      rw [lenB_snoc hrj]
      have := hr r (List.mem_of_getElem? hrj)
      omega
    · rw [List.take_of_length_le (by omega)]; rw [List.take_of_length_le (by omega)] at ih; omega

set_option maxHeartbeats 800000 in
theorem markBoolSS_any (base : Nat) (s : Option Addr) (cap : Nat) (vs : List Value) (rows : List (List Bool)) (k : Int) (w : World) (h : OwnSB w base (.slice s rows.length cap) vs rows) (hn : rows.length ≤ 1000) (hr : ∀ r ∈ rows, r.length ≤ 1000) (hk : 0 ≤ k) (hk2 : k ≤ 1000) :
    Calls Try.prog 32 #[.slice s rows.length cap, .int .i64 k] w fun e w' => e = .returned (.int .i64 (k + lenB rows)) ∧ OwnSB w' base (.slice s rows.length cap) vs (markB k rows) ∧ Chg (fun q => base ≤ q) w w' := by
  have H := Lib.hid (And.intro h (And.intro hr (lenB_tk rows hr)))
  clear h hr
  go_enter Try.func32, Try.ntmps32
  go_wp2_with fail
  go_loopw [1, 5] (fun v1 i wr => ∃ j : Nat, j ≤ rows.length ∧ i = .int .i64 j ∧ v1 = .int .i64 (k + lenB (rows.take j)) ∧
      (∀ (i : Nat) (u : Value) (r : List Bool), vs[i]? = some u → rows[i]? = some r → wr.ownsRow base 4 1 u r.length (bools (if i < j then jota (k + lenB (rows.take i)) r.length else r))) ∧ wr.ownsRow base 44 1 (.slice s rows.length cap) rows.length vs ∧ Chg (fun q => base ≤ q) w wr) (fun _ i _ => rows.length - (intOf i).toNat)
  case atStart => exact ⟨0, Nat.zero_le _, rfl, by simp [lenB], fun i u r h1 h2 => by simpa using H.out.1.row i u r h1 h2, H.out.1.out, Chg.refl _ _⟩
  case round =>
    obtain ⟨j, hj, rfl, rfl, hb, ho, hc⟩ := hrel
    have hL0 := lenB_nonneg (rows.take j)
    have hL1 := H.out.2.2 j
    by_cases hlt : j < rows.length
    · obtain ⟨r, hrj⟩ := get_of_lt hlt
      obtain ⟨u, huj⟩ := H.out.1.get hrj
      obtain ⟨g, rfl⟩ : ∃ g, s = some ⟨g, 0, none⟩ := by
        rcases own_some ho with ⟨_, e, _⟩ | ⟨g, e⟩
        · omega
        · exact ⟨g, e⟩
      have hor : wr.ownsRow base 4 1 u r.length (bools r) := by simpa using hb j u r huj hrj
      obtain ⟨su, cu, rfl⟩ := own_shape hor
      have hz : wr.cell? ⟨g, j, none⟩ = some (.slice su r.length cu) := (ho.cellAt j (by omega)).trans huj
      have hrl := H.out.2.1 r (List.mem_of_getElem? hrj)
      have hsn := lenB_snoc hrj
      have HR := Lib.hid (And.intro hb (And.intro ho (And.intro hc (And.intro hrj (And.intro huj (And.intro hor hsn))))))
      clear hb ho hc hrj huj hor hsn
      go_wp2_with (go_at_call 52; ((refine (markBoolS_any base su r.length cu r _ _ HR.out.2.2.2.2.2.1 (by omega) (by omega) (by omega)).mono ?_); rintro e w1 ⟨rfl, ho1, hg1⟩; have HM := Lib.hid (And.intro ho1 (Chg.of_grown hg1)); clear ho1 hg1))
      obtain ⟨hb, ho, hc, hrj, huj, hor, hsn⟩ := HR.out
      go_roundw
      case rel =>
        refine ⟨j + 1, by omega, by go_num, by rw [hsn]; go_num, fun i u' r' h1 h2 => ?_, HM.out.2.own ho (fun k hk e => own_ty ho hor (by decide) hk e), hc.trans (HM.out.2.mono fun q e => (own_blk hor e).1)⟩
        by_cases e : i = j
        · subst e
          rw [huj] at h1; cases h1
          rw [hrj] at h2; cases h2
          rw [if_pos (by omega)]; exact HM.out.1
        · have h3 := hb i u' r' h1 h2
          have h4 := HM.out.2.own h3 (fun q hq eq => e (H.out.1.inj i j u' _ q h1 huj hq eq))
          have : (i < j + 1) = (i < j) := by apply propext; omega
          simp only [this]
          exact h4
      case measure => simp [intOf]; omega
    · obtain rfl : j = rows.length := by omega
      have hR : OwnSB wr base (.slice s rows.length cap) vs (markB k rows) := by
        refine ⟨by rw [markB_length]; exact ho, fun i u r' h1 h2 => ?_, H.out.1.inj⟩
        obtain ⟨r, hri⟩ := H.out.1.rget h1
        have hi := (List.getElem?_eq_some_iff.1 hri).1
        rw [markB_get hri] at h2; cases h2
        have := hb i u r h1 hri
        rw [if_pos hi] at this
        rw [jota_length]; exact this
      have HR := Lib.hid (And.intro hR hc)
      clear hR hc hb ho
      go_wp2
      go_ret
      exact ⟨ret_int (by rw [List.take_length]), HR.out.1, HR.out.2⟩

set_option maxHeartbeats 800000 in
theorem heldBoolSS_any (s : Option Addr) (cap : Nat) (rows : List (List Bool)) (k : Int) (w : World) (h : SlB w s (markB k rows)) (hn : rows.length ≤ 1000) (hr : ∀ r ∈ rows, r.length ≤ 1000) (hk : 0 ≤ k) (hk2 : k ≤ 1000) :
    Calls Try.prog 33 #[.slice s rows.length cap, .int .i64 k] w fun e w' => e = .returned (.int .i64 (k + lenB rows)) ∧ Drew w w' := by
  have H := Lib.hid (And.intro h (And.intro hr (lenB_tk rows hr)))
  clear h hr
  go_enter Try.func33, Try.ntmps33
  go_wp2_with fail
  go_loopw [1, 5] (fun v1 i wr => ∃ j : Nat, j ≤ rows.length ∧ i = .int .i64 j ∧ v1 = .int .i64 (k + lenB (rows.take j)) ∧ Drew w wr) (fun _ i _ => rows.length - (intOf i).toNat)
  case atStart => exact ⟨0, Nat.zero_le _, rfl, by simp [lenB], Drew.refl _⟩
  case round =>
    obtain ⟨j, hj, rfl, rfl, hd⟩ := hrel
    have hL0 := lenB_nonneg (rows.take j)
    have hL1 := H.out.2.2 j
    by_cases hlt : j < rows.length
    · obtain ⟨r, hrj⟩ := get_of_lt hlt
      obtain ⟨b, off, si, ci, rfl, hbw, hz, hsi⟩ := H.out.1.row (hd.below _) (markB_get (k := k) hrj)
      rw [jota_length] at hz
      have hrl := H.out.2.1 r (List.mem_of_getElem? hrj)
      have hsn := lenB_snoc hrj
      have HR := Lib.hid (And.intro hd (And.intro hrj (And.intro (hsi.mono (hd.below _)) hsn)))
      clear hd hrj hsi hsn
      have hnn : decide (k + lenB (rows.take j) + (r.length : Int) < 0) = false := by simp; omega
      go_wp2_with (go_at_call 53; ((refine (heldBoolS_any si r.length ci _ _ HR.out.2.2.1 (by omega) (by omega) (by omega)).mono ?_); rintro e w1 ⟨rfl, hd1⟩; have HM := Lib.hid hd1; clear hd1))
      obtain ⟨hd, hrj, hsi, hsn⟩ := HR.out
      go_roundw
      case rel => exact ⟨j + 1, by omega, by go_num, by rw [hsn]; go_num, hd.trans HM.out⟩
      case measure => simp [intOf]; omega
    · obtain rfl : j = rows.length := by omega
      have HD := Lib.hid hd
      clear hd
      go_wp2
      go_ret
      exact ⟨ret_int (by rw [List.take_length]), HD.out⟩

theorem OwnSB.slb' {w : World} {base n : Nat} {s : Option Addr} {c : Nat} {vs : List Value} {rows : List (List Bool)} (h : OwnSB w base (.slice s n c) vs rows) (hl : rows.length = n) : SlB w s rows := by
  subst hl; exact h.slb

end Go.Proofs.Ytgadinaninkmoaa
