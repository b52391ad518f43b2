import Derived.Test.YtfedipoffakegaaB1
namespace Go.Proofs.Ytfedipoffakegaa
set_option linter.unusedVariables false
set_option linter.unusedSimpArgs false
open Go.RowKit

/-- A slice of slices that the call made: the rows lie in blocks of their own. -/
def OwnSS (w : World) (base : Nat) (v : Value) (rows : List (List Int)) : Prop :=
  ∃ vs : List Value, w.ownsRow base 22 1 v rows.length vs ∧ (∀ (i : Nat) (r : List Int), rows[i]? = some r → ∃ u, vs[i]? = some u ∧ w.ownsRow base 3 1 u r.length (ints r)) ∧
    ∀ (i j : Nat) (u u' : Value) (k : Nat), vs[i]? = some u → vs[j]? = some u' → u.ownBlock = some k → u'.ownBlock = some k → i = j
theorem OwnSS.shape {w : World} {base : Nat} {v : Value} {rows : List (List Int)} (h : OwnSS w base v rows) : ∃ s c, v = .slice s rows.length c := by
  obtain ⟨vs, h1, _⟩ := h; exact own_shape h1
theorem OwnSS.sls {w : World} {base : Nat} {s : Option Addr} {c : Nat} {rows : List (List Int)} (h : OwnSS w base (.slice s rows.length c) rows) : SlS w s rows := by
  obtain ⟨vs, h1, h2, _⟩ := h
  refine ⟨vs, by simpa using h1.1, own_sl h1, fun i r hr => ?_⟩
  obtain ⟨u, hu, ho⟩ := h2 i r hr
  obtain ⟨si, ci, rfl⟩ := own_shape ho
  exact ⟨si, ci, hu, own_sl ho⟩
theorem OwnSS.below {w w' : World} {base : Nat} {v : Value} {rows : List (List Int)} (h : OwnSS w base v rows) (hb : Below w.heap.size w w') : OwnSS w' base v rows := by
  obtain ⟨vs, h1, h2, h3⟩ := h
  exact ⟨vs, own_below h1 hb, fun i r hr => let ⟨u, hu, ho⟩ := h2 i r hr; ⟨u, hu, own_below ho hb⟩, h3⟩

theorem mk40 (w : World) (n : Nat) (h : n ≤ 1048576) : (Instr.makeSlice 27 (.int .i64 (n : Int)) (.int .i64 (n : Int))).run Try.prog w = .ok (.slice (some ⟨w.heap.size, 0, none⟩) n n) (w.alloc (.cells (madeCells #[.slice none 0 0] n) 22)) := by
  obtain ⟨i, hi, h1, h2, h3⟩ := info_parts (P := Try.prog) (e := 22) (z := .slice none 0 0) (size := 1) (bytes := 24) (by kernel_rfl)
  have := run_make (P := Try.prog) w 27 22 i (.slice none 0 0) (by kernel_rfl) hi h1 .i64 .i64 n n (by omega) (by omega) (by rw [h3]; omega) (by omega)
  rw [this, h2]; simp [Value.cells]

theorem eqIntSS_any (s t : Option Addr) (xs ys : List (List Int)) (cap cap2 : Nat) (w : World) (hs : SlS w s xs) (ht : SlS w t ys) (hl : xs.length ≤ 1048576) (hl2 : ys.length ≤ 1048576) (hr : ∀ r ∈ xs, r.length ≤ 1048576) (hr2 : ∀ r ∈ ys, r.length ≤ 1048576) :
    Calls Try.prog 13 #[.slice s xs.length cap, .slice t ys.length cap2] w fun e w' => e = .returned (.bool (decide (xs = ys))) ∧ Drew w w' := by
  have HS : Hid ((SlS w s xs ∧ SlS w t ys) ∧ (∀ r ∈ xs, r.length ≤ 1048576) ∧ ∀ r ∈ ys, r.length ≤ 1048576) := ⟨⟨hs, ht⟩, hr, hr2⟩
  clear hs ht hr hr2
  by_cases hc : xs.length = ys.length
  · rw [← hc]
    generalize hn : xs.length = n at hc hl ⊢
    have HC : Hid (xs.length = n ∧ ys.length = n) := ⟨hn, hc.symm⟩
    clear hc hn hl2
    go_enter Try.func13, Try.ntmps13
    go_wp2
    go_loopw [5] (fun i wr => ∃ k : Nat, k ≤ n ∧ i = .int .i64 k ∧ xs.take k = ys.take k ∧ Drew w wr) (fun i _ => n - (intOf i).toNat)
    case atStart => exact ⟨0, Nat.zero_le _, rfl, rfl, Drew.refl _⟩
    case round =>
      obtain ⟨k, hk, rfl, htk, hd⟩ := hrel
      have HT : Hid (xs.take k = ys.take k) := htk
      have HD := Lib.hid hd
      clear htk hd
      by_cases hlt : k < n
      · obtain ⟨x, hx⟩ := get_of_lt (l := xs) (k := k) (by have := HC.out; omega)
        obtain ⟨y, hy⟩ := get_of_lt (l := ys) (k := k) (by have := HC.out; omega)
        obtain ⟨b, off, sx, cx, rfl, hbw, hz, hsx⟩ := HS.out.1.1.row (HD.out.below _) hx
        obtain ⟨b2, off2, sy, cy, rfl, hbw2, hz2, hsy⟩ := HS.out.1.2.row (HD.out.below _) hy
        have hlx := HS.out.2.1 x (List.mem_of_getElem? hx)
        have hly := HS.out.2.2 y (List.mem_of_getElem? hy)
        have HX : ∀ m, Sl (wr.drewN m) sx (ints x) ∧ Sl (wr.drewN m) sy (ints y) := fun m => ⟨hsx.mono ((HD.out.n m).below _), hsy.mono ((HD.out.n m).below _)⟩
        have HR : Hid (_ ∧ _ ∧ ∀ m, Sl (wr.drewN m) sx (ints x) ∧ Sl (wr.drewN m) sy (ints y)) := Lib.hid ⟨hx, hy, HX⟩
        clear hx hy hsx hsy HX
        go_wp2_with fail
        go_quiet ((go_at_call 22; exact Calls.quiet_of (eqIntS_any _ _ _ _ _ _ _ (HR.out.2.2 _).1 (HR.out.2.2 _).2 hlx hly)))
        go_wp2
        all_goals obtain ⟨hx, hy, _⟩ := HR.out
        all_goals first
          | (go_roundw
             case rel => exact ⟨k + 1, by omega, by go_num, by rw [List.take_add_one, List.take_add_one, HT.out, hx, hy]; simp at *; assumption, HD.out.n _⟩
             case measure => simp [intOf]; omega)
          | (go_ret
             refine ⟨ret_bool ?_, HD.out.n _⟩
             symm; rw [decide_eq_false_iff_not]; intro e; subst e; rw [hx] at hy; simp at *; contradiction)
      · obtain rfl : k = n := by omega
        have he : decide (xs = ys) = true := by
          have h1 := HT.out
          rw [List.take_of_length_le (by have := HC.out; omega), List.take_of_length_le (by have := HC.out; omega)] at h1
          simpa using h1
        have HE := Lib.hid he
        clear he
        go_wp2
        go_ret
        exact ⟨ret_bool HE.out.symm, HD.out⟩
  · have hd : decide (xs = ys) = false := by simp; intro e; exact hc (by rw [e])
    rw [hd]
    clear hd
    go_enter Try.func13, Try.ntmps13
    go_wp2
    go_ret
    exact ⟨rfl, Drew.refl _⟩

end Go.Proofs.Ytfedipoffakegaa
