import Derived.Test.YtddmgphlhfilnaaN1
namespace Go.Proofs.Ytddmgphlhfilnaa
set_option linter.unusedVariables false
set_option linter.unusedSimpArgs false
open Go.RowKit

/-! The diagram of a table, as lists: the nodes behind the two constant ones, and the number of the root. -/

def fdK : List Nd → Nd → Option Nat
  | [], _ => none
  | y :: ys, x => if x = y then some 0 else (fdK ys x).map (· + 1)
theorem fdK_some {Ks : List Nd} {x : Nd} : ∀ {i : Nat}, fdK Ks x = some i → Ks[i]? = some x := by
  induction Ks with
  | nil => intro i h; cases h
  | cons y ys ih =>
    intro i h
    unfold fdK at h
    by_cases e : x = y
    · rw [if_pos e] at h
      simp only [Option.some.injEq] at h
      subst h; rw [e]; rfl
    · rw [if_neg e, Option.map_eq_some_iff] at h
      obtain ⟨j, hj, rfl⟩ := h
      exact ih hj
theorem fdK_none {Ks : List Nd} {x : Nd} (h : fdK Ks x = none) : x ∉ Ks := by
  induction Ks with
  | nil => simp
  | cons y ys ih =>
    unfold fdK at h
    by_cases e : x = y
    · rw [if_pos e] at h; cases h
    · rw [if_neg e, Option.map_eq_none_iff] at h
      simp [e, ih h]
theorem fdK_lt {Ks : List Nd} {x : Nd} {i : Nat} (h : fdK Ks x = some i) : i < Ks.length := (List.getElem?_eq_some_iff.1 (fdK_some h)).1
def mkK (Ks : List Nd) (v lo hi : Int) : List Nd × Int :=
  if lo = hi then (Ks, lo) else match fdK Ks ⟨v, lo, hi⟩ with
    | some i => (Ks, ((i + 2 : Nat) : Int))
    | none => (Ks ++ [⟨v, lo, hi⟩], ((Ks.length + 2 : Nat) : Int))
theorem mkK_eq {Ks : List Nd} {v lo hi : Int} (h : lo = hi) : mkK Ks v lo hi = (Ks, lo) := by unfold mkK; rw [if_pos h]
theorem mkK_old {Ks : List Nd} {v lo hi : Int} {i : Nat} (h : lo ≠ hi) (hf : fdK Ks ⟨v, lo, hi⟩ = some i) : mkK Ks v lo hi = (Ks, ((i + 2 : Nat) : Int)) := by unfold mkK; rw [if_neg h, hf]
theorem mkK_new {Ks : List Nd} {v lo hi : Int} (h : lo ≠ hi) (hf : fdK Ks ⟨v, lo, hi⟩ = none) : mkK Ks v lo hi = (Ks ++ [⟨v, lo, hi⟩], ((Ks.length + 2 : Nat) : Int)) := by unfold mkK; rw [if_neg h, hf]
def bldK (f : Nat → Bool) : Nat → Nat → Nat → List Nd → List Nd × Int
  | 0, _, x, Ks => (Ks, if f x then 1 else 0)
  | d + 1, v, x, Ks => mkK (bldK f d (v + 1) (x + 2 ^ v) (bldK f d (v + 1) x Ks).1).1 v (bldK f d (v + 1) x Ks).2 (bldK f d (v + 1) (x + 2 ^ v) (bldK f d (v + 1) x Ks).1).2
theorem mkK_len (Ks : List Nd) (v lo hi : Int) : Ks.length ≤ (mkK Ks v lo hi).1.length ∧ (mkK Ks v lo hi).1.length ≤ Ks.length + 1 := by
  unfold mkK
  split
  · simp
  · split <;> simp
theorem bldK_len (f : Nat → Bool) : ∀ (d v x : Nat) (Ks : List Nd), Ks.length ≤ (bldK f d v x Ks).1.length ∧ (bldK f d v x Ks).1.length + 1 ≤ Ks.length + 2 ^ d
  | 0, v, x, Ks => by simp [bldK]
  | d + 1, v, x, Ks => by
    have h1 := bldK_len f d (v + 1) x Ks
    have h2 := bldK_len f d (v + 1) (x + 2 ^ v) (bldK f d (v + 1) x Ks).1
    have h3 := mkK_len (bldK f d (v + 1) (x + 2 ^ v) (bldK f d (v + 1) x Ks).1).1 v (bldK f d (v + 1) x Ks).2 (bldK f d (v + 1) (x + 2 ^ v) (bldK f d (v + 1) x Ks).1).2
    have hs : 2 ^ (d + 1) = 2 ^ d + 2 ^ d := by rw [Nat.pow_succ]; omega
    unfold bldK
    rw [hs]
    omega
theorem mkK_id {Ks : List Nd} {v lo hi : Int} (h0 : 0 ≤ lo) (h1 : lo < Ks.length + 2) : 0 ≤ (mkK Ks v lo hi).2 ∧ (mkK Ks v lo hi).2 < (mkK Ks v lo hi).1.length + 2 := by
  unfold mkK
  split
  · exact ⟨h0, h1⟩
  · split
    · rename_i i hi
      have := fdK_lt hi
      exact ⟨by omega, by simp; omega⟩
    · exact ⟨by omega, by simp; omega⟩
theorem bldK_id (f : Nat → Bool) : ∀ (d v x : Nat) (Ks : List Nd), 0 ≤ (bldK f d v x Ks).2 ∧ (bldK f d v x Ks).2 < (bldK f d v x Ks).1.length + 2
  | 0, v, x, Ks => by unfold bldK; dsimp only; split <;> omega
  | d + 1, v, x, Ks => by
    have h1 := bldK_id f d (v + 1) x Ks
    have h2 := bldK_len f d (v + 1) (x + 2 ^ v) (bldK f d (v + 1) x Ks).1
    unfold bldK
    exact mkK_id h1.1 (by omega)
theorem mkK_nodup {Ks : List Nd} {v lo hi : Int} (h : Ks.Nodup) : (mkK Ks v lo hi).1.Nodup := by
  unfold mkK
  split
  · exact h
  · split
    · exact h
    · rename_i hn
      exact List.nodup_append.2 ⟨h, by simp, fun a ha b hb e => by simp at hb; subst hb; subst e; exact fdK_none hn ha⟩
theorem bldK_nodup (f : Nat → Bool) : ∀ (d v x : Nat) (Ks : List Nd), Ks.Nodup → (bldK f d v x Ks).1.Nodup
  | 0, v, x, Ks, h => h
  | d + 1, v, x, Ks, h => mkK_nodup (bldK_nodup f d _ _ _ (bldK_nodup f d _ _ _ h))

def zz (Ks : List Nd) : List Nd := ⟨0, 0, 0⟩ :: ⟨0, 0, 0⟩ :: Ks
theorem zz_length (Ks : List Nd) : (zz Ks).length = Ks.length + 2 := rfl
theorem zz_get {Ks : List Nd} {i : Nat} : (zz Ks)[i + 2]? = Ks[i]? := rfl
theorem zz_app (Ks : List Nd) (x : Nd) : zz (Ks ++ [x]) = zz Ks ++ [x] := rfl

end Go.Proofs.Ytddmgphlhfilnaa
