import Derived.Test.YtaboipnigeaopaaDA
namespace Go.Proofs.Ytaboipnigeaopaa
set_option linter.unusedVariables false
set_option linter.unusedSimpArgs false
open Go.RowKit

/-! Classes of states: plain laws. -/

/-- The first number with the same key. -/
def fstK (key : Nat → List Int) (s : Nat) : Nat := ((List.range s).find? (fun (t : Nat) => decide (key t = key s))).getD s
theorem fstK_spec (key : Nat → List Int) (s : Nat) : fstK key s ≤ s ∧ key (fstK key s) = key s ∧ ∀ t, t < fstK key s → key t ≠ key s := by
  unfold fstK
  cases h : (List.range s).find? (fun (t : Nat) => decide (key t = key s)) with
  | none =>
    simp only [Option.getD_none]
    refine ⟨Nat.le_refl _, trivial, fun t ht e => ?_⟩
    have := List.find?_eq_none.1 h t (List.mem_range.2 ht)
    simp [e] at this
  | some u =>
    simp only [Option.getD_some]
    rw [List.find?_range_eq_some] at h
    obtain ⟨h1, h2, h3⟩ := h
    refine ⟨Nat.le_of_lt (List.mem_range.1 h2), by simpa using h1, fun t ht e => ?_⟩
    have := h3 t ht
    simp [e] at this
theorem fstK_iff {key : Nat → List Int} {s t : Nat} : fstK key s = fstK key t ↔ key s = key t := by
  obtain ⟨s1, s2, s3⟩ := fstK_spec key s
  obtain ⟨t1, t2, t3⟩ := fstK_spec key t
  constructor
  · intro e; rw [← s2, e, t2]
  · intro e
    rcases Nat.lt_trichotomy (fstK key s) (fstK key t) with h | h | h
    · exact absurd (s2.trans e) (t3 _ h)
    · exact h
    · exact absurd (t2.trans e.symm) (s3 _ h)
theorem fstK_idem (key : Nat → List Int) (s : Nat) : fstK key (fstK key s) = fstK key s := fstK_iff.2 (fstK_spec key s).2.1
theorem fstK_eq {key : Nat → List Int} {s u : Nat} (h1 : u ≤ s) (h2 : key u = key s) (h3 : ∀ t, t < u → key t ≠ key s) : fstK key s = u := by
  obtain ⟨s1, s2, s3⟩ := fstK_spec key s
  rcases Nat.lt_trichotomy (fstK key s) u with h | h | h
  · exact absurd s2 (h3 _ h)
  · exact h
  · exact absurd h2 (s3 _ h)
def clsK (key : Nat → List Int) (N : Nat) : List Int := (List.range N).map fun (s : Nat) => ((fstK key s : Nat) : Int)
theorem clsK_length (key : Nat → List Int) (N : Nat) : (clsK key N).length = N := by simp [clsK]
theorem clsK_succ (key : Nat → List Int) (N : Nat) : clsK key (N + 1) = clsK key N ++ [((fstK key N : Nat) : Int)] := by simp [clsK, List.range_succ]
theorem clsK_get {key : Nat → List Int} {N s : Nat} (h : s < N) : (clsK key N)[s]? = some ((fstK key s : Nat) : Int) := by simp [clsK, h]
theorem clsK_getD {key : Nat → List Int} {N s : Nat} (h : s < N) : (clsK key N).getD s 0 = ((fstK key s : Nat) : Int) := by
  rw [List.getD_eq_getElem?_getD, clsK_get h]; rfl
theorem clsK_bd {key : Nat → List Int} {N : Nat} : ∀ x ∈ clsK key N, 0 ≤ x ∧ x < N := fun x hx => by
  obtain ⟨s, hs, rfl⟩ := List.mem_map.1 hx
  have := (fstK_spec key s).1
  have := List.mem_range.1 hs
  omega
/-- The outputs of a state. -/
def keyO (c : Cir) (M : Nat) (s : Nat) : List Int := (List.range M).map fun (x : Nat) => outN c (s : Int) (x : Int)
/-- A state's class and those of its successors. -/
def keyR (c : Cir) (M : Nat) (cl : List Int) (s : Nat) : List Int := cl.getD s 0 :: (List.range M).map fun (x : Nat) => cl.getD (nextN c (s : Int) (x : Int)).toNat 0
theorem keyO_iff {c : Cir} {M s t : Nat} : keyO c M s = keyO c M t ↔ ∀ x : Nat, x < M → outN c (s : Int) (x : Int) = outN c (t : Int) (x : Int) := by
  unfold keyO
  rw [List.map_inj_left]
  simp
theorem keyR_iff {c : Cir} {M s t : Nat} {cl : List Int} : keyR c M cl s = keyR c M cl t ↔ cl.getD s 0 = cl.getD t 0 ∧ ∀ x : Nat, x < M → cl.getD (nextN c (s : Int) (x : Int)).toNat 0 = cl.getD (nextN c (t : Int) (x : Int)).toNat 0 := by
  unfold keyR
  rw [List.cons.injEq, List.map_inj_left]
  simp
def refK (c : Cir) (M N : Nat) (cl : List Int) : List Int := clsK (keyR c M cl) N
def iterK (c : Cir) (M N : Nat) : Nat → List Int
  | 0 => clsK (keyO c M) N
  | n + 1 => refK c M N (iterK c M N n)
theorem iterK_cls (c : Cir) (M N : Nat) : ∀ n, ∃ key, iterK c M N n = clsK key N
  | 0 => ⟨_, rfl⟩
  | _ + 1 => ⟨_, rfl⟩
theorem iterK_length (c : Cir) (M N n : Nat) : (iterK c M N n).length = N := by
  obtain ⟨key, h⟩ := iterK_cls c M N n
  rw [h, clsK_length]
theorem refK_length (c : Cir) (M N : Nat) (cl : List Int) : (refK c M N cl).length = N := clsK_length _ _
/-- How many classes there are. -/
def cntK (N : Nat) (cl : List Int) : Nat := ((List.range N).filter fun (s : Nat) => decide (cl.getD s 0 = (s : Int))).length
theorem cntK_le (N : Nat) (cl : List Int) : cntK N cl ≤ N := by
  have := List.length_filter_le (fun (s : Nat) => decide (cl.getD s 0 = (s : Int))) (List.range N)
  simpa [cntK] using this
theorem rep_keep {c : Cir} {M N : Nat} {key : Nat → List Int} {s : Nat} (hs : s < N) (h : (clsK key N).getD s 0 = (s : Int)) : (refK c M N (clsK key N)).getD s 0 = (s : Int) := by
  unfold refK
  rw [clsK_getD hs]
  congr 1
  refine fstK_eq (Nat.le_refl _) rfl fun t ht e => ?_
  have h1 := (keyR_iff.1 e).1
  rw [h, clsK_getD (by omega)] at h1
  have := (fstK_spec key t).1
  omega
theorem cntK_mono {c : Cir} {M N : Nat} {key : Nat → List Int} : cntK N (clsK key N) ≤ cntK N (refK c M N (clsK key N)) :=
  filter_mono_len _ fun s hs h => by
    simp only [decide_eq_true_eq] at h ⊢
    exact rep_keep (List.mem_range.1 hs) h
/-- If no class is parted nothing changes. -/
theorem refK_same {c : Cir} {M N : Nat} {key : Nat → List Int} (h : cntK N (refK c M N (clsK key N)) ≤ cntK N (clsK key N)) : refK c M N (clsK key N) = clsK key N := by
  have hrep : ∀ s, s < N → (refK c M N (clsK key N)).getD s 0 = (s : Int) → (clsK key N).getD s 0 = (s : Int) := fun s hs e => by
    have := filter_mono_eq (List.range N) (p := fun (s : Nat) => decide ((clsK key N).getD s 0 = (s : Int))) (q := fun (s : Nat) => decide ((refK c M N (clsK key N)).getD s 0 = (s : Int)))
      (fun s hs h => by simp only [decide_eq_true_eq] at h ⊢; exact rep_keep (List.mem_range.1 hs) h) h s (List.mem_range.2 hs) (by simpa using e)
    simpa using this
  apply List.ext_getElem?
  intro s
  by_cases hs : s < N
  · have e1 : (refK c M N (clsK key N))[s]? = some ((fstK (keyR c M (clsK key N)) s : Nat) : Int) := clsK_get hs
    rw [e1, clsK_get hs]
    obtain ⟨s1, s2, s3⟩ := fstK_spec (keyR c M (clsK key N)) s
    have hu : fstK (keyR c M (clsK key N)) s < N := by omega
    have h1 := hrep _ hu (by unfold refK; rw [clsK_getD hu, fstK_idem])
    have h2 := (keyR_iff.1 s2).1
    rw [h1, clsK_getD hs] at h2
    rw [h2]
  · rw [List.getElem?_eq_none (by rw [refK_length]; omega), List.getElem?_eq_none (by rw [clsK_length]; omega)]
theorem iterK_cnt {c : Cir} {M N : Nat} (hN : 0 < N) : ∀ n, iterK c M N (n + 1) = iterK c M N n ∨ n + 2 ≤ cntK N (iterK c M N (n + 1))
  | 0 => by
    obtain ⟨key, h⟩ := iterK_cls c M N 0
    by_cases e : cntK N (iterK c M N (0 + 1)) ≤ cntK N (iterK c M N 0)
    · left
      show refK c M N (iterK c M N 0) = _
      rw [h]
      exact refK_same (by rw [← h]; exact e)
    · right
      have h0 : 1 ≤ cntK N (iterK c M N 0) := by
        rw [h]
        unfold cntK
        apply List.length_pos_of_mem (a := 0)
        rw [List.mem_filter]
        refine ⟨List.mem_range.2 hN, ?_⟩
        rw [clsK_getD hN, decide_eq_true_eq]
        have := (fstK_spec key 0).1
        omega
      omega
  | n + 1 => by
    obtain ⟨key, h⟩ := iterK_cls c M N (n + 1)
    by_cases e : cntK N (iterK c M N (n + 1 + 1)) ≤ cntK N (iterK c M N (n + 1))
    · left
      show refK c M N (iterK c M N (n + 1)) = _
      rw [h]
      exact refK_same (by rw [← h]; exact e)
    · rcases iterK_cnt (c := c) (M := M) hN n with h1 | h1
      · left
        show refK c M N (iterK c M N (n + 1)) = refK c M N (iterK c M N n)
        rw [h1]
      · right; omega
/-- As long as something changes there are fewer rounds than states. -/
theorem iterK_lt {c : Cir} {M N n : Nat} (hN : 0 < N) (h : iterK c M N (n + 1) ≠ iterK c M N n) : n + 1 < N := by
  rcases iterK_cnt (c := c) (M := M) hN n with e | e
  · exact absurd e h
  · have := cntK_le N (iterK c M N (n + 1)); omega
theorem iterK_fix {c : Cir} {M N n : Nat} (h : iterK c M N (n + 1) = iterK c M N n) : ∀ d, iterK c M N (n + d) = iterK c M N n
  | 0 => rfl
  | d + 1 => by
    show refK c M N (iterK c M N (n + d)) = _
    rw [iterK_fix h d]; exact h
theorem iterK_last {c : Cir} {M N n : Nat} (hn : n ≤ N) (h : iterK c M N (n + 1) = iterK c M N n) : iterK c M N n = iterK c M N N := by
  have := iterK_fix h (N - n)
  rw [show n + (N - n) = N by omega] at this
  exact this.symm
theorem iterK_end {c : Cir} {M N : Nat} (hN : 0 < N) : refK c M N (iterK c M N N) = iterK c M N N := by
  show iterK c M N (N + 1) = _
  rcases iterK_cnt (c := c) (M := M) hN N with e | e
  · exact e
  · have := cntK_le N (iterK c M N (N + 1)); omega
def clsR (c : Cir) : List Int := if c.validB then iterK c (2 ^ c.inp.toNat) (2 ^ c.next.length) (2 ^ c.next.length) else []
theorem clsR_no {c : Cir} (h : c.validB = false) : clsR c = [] := by unfold clsR; rw [h]; rfl
theorem clsR_yes {c : Cir} (h : c.validB = true) {ni : Nat} (hi : c.inp = ni) : clsR c = iterK c (2 ^ ni) (2 ^ c.next.length) (2 ^ c.next.length) := by
  unfold clsR; rw [if_pos h, hi]; rfl
theorem clsR_len (c : Cir) : (clsR c).length ≤ 1000000 := by
  cases h : c.validB
  · rw [clsR_no h]; simp
  · obtain ⟨q1, q2, q3, q4, q5⟩ := (c.validB_iff.1 h).lim
    unfold clsR
    rw [if_pos h, iterK_length]
    have : 2 ^ c.next.length ≤ 2 ^ 8 := Nat.pow_le_pow_right (by omega) (by omega)
    omega
/-- States of one class were of one class at every earlier round. -/
theorem iterK_down {c : Cir} {M N s t : Nat} (hs : s < N) (ht : t < N) : ∀ n, (iterK c M N n).getD s 0 = (iterK c M N n).getD t 0 → ∀ m, m ≤ n → (iterK c M N m).getD s 0 = (iterK c M N m).getD t 0
  | 0, h, m, hm => by obtain rfl : m = 0 := by omega
                      exact h
  | n + 1, h, m, hm => by
    by_cases e : m = n + 1
    · subst e; exact h
    · refine iterK_down hs ht n ?_ m (by omega)
      have h' : (clsK (keyR c M (iterK c M N n)) N).getD s 0 = (clsK (keyR c M (iterK c M N n)) N).getD t 0 := h
      rw [clsK_getD hs, clsK_getD ht] at h'
      have h2 : fstK (keyR c M (iterK c M N n)) s = fstK (keyR c M (iterK c M N n)) t := by omega
      exact (keyR_iff.1 (fstK_iff.1 h2)).1
structure ClassP (c : Cir) (M N : Nat) (L : List Int) : Prop where
  len : L.length = N
  le : ∀ s, s < N → 0 ≤ L.getD s 0 ∧ L.getD s 0 ≤ s
  rep : ∀ s, s < N → L.getD (L.getD s 0).toNat 0 = L.getD s 0
  same : ∀ s t, s < N → t < N → (L.getD s 0 = L.getD t 0 ↔ ∀ x : Nat, x < M → outN c (s : Int) (x : Int) = outN c (t : Int) (x : Int) ∧ L.getD (nextN c (s : Int) (x : Int)).toNat 0 = L.getD (nextN c (t : Int) (x : Int)).toNat 0)
theorem iterK_spec {c : Cir} {M N : Nat} (hN : 0 < N) (hn : N = 2 ^ c.next.length) : ClassP c M N (iterK c M N N) := by
  have hend := iterK_end (c := c) (M := M) hN
  obtain ⟨key, hk⟩ := iterK_cls c M N N
  have hnx : ∀ s x : Int, (nextN c s x).toNat < N := fun s x => by have := nextN_lt c s x; rw [← hn] at this; omega
  refine ⟨iterK_length _ _ _ _, fun s hs => ?_, fun s hs => ?_, fun s t hs ht => ?_⟩
  · rw [hk, clsK_getD hs]
    have := (fstK_spec key s).1
    omega
  · rw [hk, clsK_getD hs, Int.toNat_natCast]
    have := (fstK_spec key s).1
    rw [clsK_getD (by omega), fstK_idem]
  · constructor
    · intro e x hx
      have h0 := iterK_down hs ht N e 0 (Nat.zero_le _)
      have h0' : (clsK (keyO c M) N).getD s 0 = (clsK (keyO c M) N).getD t 0 := h0
      rw [clsK_getD hs, clsK_getD ht] at h0'
      have h1 := keyO_iff.1 (fstK_iff.1 (show fstK (keyO c M) s = fstK (keyO c M) t by omega)) x hx
      have h2 : (clsK (keyR c M (iterK c M N N)) N).getD s 0 = (clsK (keyR c M (iterK c M N N)) N).getD t 0 := by
        show (refK c M N (iterK c M N N)).getD s 0 = (refK c M N (iterK c M N N)).getD t 0
        rw [hend]; exact e
      rw [clsK_getD hs, clsK_getD ht] at h2
      have h3 : fstK (keyR c M (iterK c M N N)) s = fstK (keyR c M (iterK c M N N)) t := by omega
      exact ⟨h1, (keyR_iff.1 (fstK_iff.1 h3)).2 x hx⟩
    · intro h
      have key2 : ∀ n, n ≤ N → (iterK c M N n).getD s 0 = (iterK c M N n).getD t 0 := by
        intro n
        induction n with
        | zero =>
          intro _
          show (clsK (keyO c M) N).getD s 0 = (clsK (keyO c M) N).getD t 0
          rw [clsK_getD hs, clsK_getD ht, fstK_iff.2 (keyO_iff.2 fun x hx => (h x hx).1)]
        | succ n ih =>
          intro hle
          show (clsK (keyR c M (iterK c M N n)) N).getD s 0 = (clsK (keyR c M (iterK c M N n)) N).getD t 0
          rw [clsK_getD hs, clsK_getD ht, fstK_iff.2 (keyR_iff.2 ⟨ih (by omega), fun x hx => ?_⟩)]
          exact iterK_down (hnx _ _) (hnx _ _) N (h x hx).2 n (by omega)
      exact key2 N (Nat.le_refl _)

end Go.Proofs.Ytaboipnigeaopaa
