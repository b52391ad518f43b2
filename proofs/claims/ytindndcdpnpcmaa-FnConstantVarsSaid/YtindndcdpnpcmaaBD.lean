import Derived.Test.YtindndcdpnpcmaaN1
import Derived.Test.YtindndcdpnpcmaaN5
namespace Go.Proofs.Ytindndcdpnpcmaa
set_option linter.unusedVariables false
set_option linter.unusedSimpArgs false
open Go.RowKit

/-! The diagram of a table, as lists: the nodes behind the two constant ones, and the number of the root. -/

def fdK : List Nd → Nd → Option Nat
  | [], _ => none
  | y :: ys, x => if x = y then some 0 else (fdK ys x).map (· + 1)
theorem fdK_some {Ks : List Nd} {x : Nd} : ∀ {i : Nat}, fdK Ks x = some i → Ks[i]? = some x := by
  induction Ks with
  | nil => intro i h; cases h
  | cons y ys ih =>
    intro i h
    unfold fdK at h
    by_cases e : x = y
    · rw [if_pos e] at h
      simp only [Option.some.injEq] at h
      subst h; rw [e]; rfl
    · rw [if_neg e, Option.map_eq_some_iff] at h
      obtain ⟨j, hj, rfl⟩ := h
      exact ih hj
theorem fdK_none {Ks : List Nd} {x : Nd} (h : fdK Ks x = none) : x ∉ Ks := by
  induction Ks with
  | nil => simp
  | cons y ys ih =>
    unfold fdK at h
    by_cases e : x = y
    · rw [if_pos e] at h; cases h
    · rw [if_neg e, Option.map_eq_none_iff] at h
      simp [e, ih h]
theorem fdK_lt {Ks : List Nd} {x : Nd} {i : Nat} (h : fdK Ks x = some i) : i < Ks.length := (List.getElem?_eq_some_iff.1 (fdK_some h)).1
def mkK (Ks : List Nd) (v lo hi : Int) : List Nd × Int :=
  if lo = hi then (Ks, lo) else match fdK Ks ⟨v, lo, hi⟩ with
    | some i => (Ks, ((i + 2 : Nat) : Int))
    | none => (Ks ++ [⟨v, lo, hi⟩], ((Ks.length + 2 : Nat) : Int))
theorem mkK_eq {Ks : List Nd} {v lo hi : Int} (h : lo = hi) : mkK Ks v lo hi = (Ks, lo) := by unfold mkK; rw [if_pos h]
theorem mkK_old {Ks : List Nd} {v lo hi : Int} {i : Nat} (h : lo ≠ hi) (hf : fdK Ks ⟨v, lo, hi⟩ = some i) : mkK Ks v lo hi = (Ks, ((i + 2 : Nat) : Int)) := by unfold mkK; rw [if_neg h, hf]
theorem mkK_new {Ks : List Nd} {v lo hi : Int} (h : lo ≠ hi) (hf : fdK Ks ⟨v, lo, hi⟩ = none) : mkK Ks v lo hi = (Ks ++ [⟨v, lo, hi⟩], ((Ks.length + 2 : Nat) : Int)) := by unfold mkK; rw [if_neg h, hf]
def bldK (f : Nat → Bool) : Nat → Nat → Nat → List Nd → List Nd × Int
  | 0, _, x, Ks => (Ks, if f x then 1 else 0)
  | d + 1, v, x, Ks => mkK (bldK f d (v + 1) (x + 2 ^ v) (bldK f d (v + 1) x Ks).1).1 v (bldK f d (v + 1) x Ks).2 (bldK f d (v + 1) (x + 2 ^ v) (bldK f d (v + 1) x Ks).1).2
theorem mkK_len (Ks : List Nd) (v lo hi : Int) : Ks.length ≤ (mkK Ks v lo hi).1.length ∧ (mkK Ks v lo hi).1.length ≤ Ks.length + 1 := by
  unfold mkK
  split
  · simp
  · split <;> simp
theorem bldK_len (f : Nat → Bool) : ∀ (d v x : Nat) (Ks : List Nd), Ks.length ≤ (bldK f d v x Ks).1.length ∧ (bldK f d v x Ks).1.length + 1 ≤ Ks.length + 2 ^ d
  | 0, v, x, Ks => by simp [bldK]
  | d + 1, v, x, Ks => by
    have h1 := bldK_len f d (v + 1) x Ks
    have h2 := bldK_len f d (v + 1) (x + 2 ^ v) (bldK f d (v + 1) x Ks).1
    have h3 := mkK_len (bldK f d (v + 1) (x + 2 ^ v) (bldK f d (v + 1) x Ks).1).1 v (bldK f d (v + 1) x Ks).2 (bldK f d (v + 1) (x + 2 ^ v) (bldK f d (v + 1) x Ks).1).2
    have hs : 2 ^ (d + 1) = 2 ^ d + 2 ^ d := by rw [Nat.pow_succ]; omega
    unfold bldK
    rw [hs]
    omega
theorem mkK_id {Ks : List Nd} {v lo hi : Int} (h0 : 0 ≤ lo) (h1 : lo < Ks.length + 2) : 0 ≤ (mkK Ks v lo hi).2 ∧ (mkK Ks v lo hi).2 < (mkK Ks v lo hi).1.length + 2 := by
  unfold mkK
  split
  · exact ⟨h0, h1⟩
  · split
    · rename_i i hi
      have := fdK_lt hi
      exact ⟨by omega, by simp; omega⟩
    · exact ⟨by omega, by simp; omega⟩
theorem bldK_id (f : Nat → Bool) : ∀ (d v x : Nat) (Ks : List Nd), 0 ≤ (bldK f d v x Ks).2 ∧ (bldK f d v x Ks).2 < (bldK f d v x Ks).1.length + 2
  | 0, v, x, Ks => by unfold bldK; dsimp only; split <;> omega
  | d + 1, v, x, Ks => by
    have h1 := bldK_id f d (v + 1) x Ks
    have h2 := bldK_len f d (v + 1) (x + 2 ^ v) (bldK f d (v + 1) x Ks).1
    unfold bldK
    exact mkK_id h1.1 (by omega)
theorem mkK_nodup {Ks : List Nd} {v lo hi : Int} (h : Ks.Nodup) : (mkK Ks v lo hi).1.Nodup := by
  unfold mkK
  split
  · exact h
  · split
    · exact h
    · rename_i hn
      exact List.nodup_append.2 ⟨h, by simp, fun a ha b hb e => by simp at hb; subst hb; subst e; exact fdK_none hn ha⟩
theorem bldK_nodup (f : Nat → Bool) : ∀ (d v x : Nat) (Ks : List Nd), Ks.Nodup → (bldK f d v x Ks).1.Nodup
  | 0, v, x, Ks, h => h
  | d + 1, v, x, Ks, h => mkK_nodup (bldK_nodup f d _ _ _ (bldK_nodup f d _ _ _ h))

def zz (Ks : List Nd) : List Nd := ⟨0, 0, 0⟩ :: ⟨0, 0, 0⟩ :: Ks
theorem zz_length (Ks : List Nd) : (zz Ks).length = Ks.length + 2 := rfl
theorem zz_get {Ks : List Nd} {i : Nat} : (zz Ks)[i + 2]? = Ks[i]? := rfl
theorem zz_app (Ks : List Nd) (x : Nd) : zz (Ks ++ [x]) = zz Ks ++ [x] := rfl

/-! What the diagram of a function says: validity, values, equality, complements, counts. -/

def exK (A B : List Nd) : Prop := ∃ T, B = A ++ T
theorem exK.refl (A : List Nd) : exK A A := ⟨[], by simp⟩
theorem exK.trans {A B C : List Nd} (h : exK A B) (k : exK B C) : exK A C := by
  obtain ⟨T, rfl⟩ := h; obtain ⟨U, rfl⟩ := k; exact ⟨T ++ U, by simp⟩
theorem exK.len {A B : List Nd} (h : exK A B) : A.length ≤ B.length := by obtain ⟨T, rfl⟩ := h; simp
theorem exK.getz {A B : List Nd} (h : exK A B) {i : Nat} {g : Nd} (hg : (zz A)[i]? = some g) : (zz B)[i]? = some g := by
  obtain ⟨T, rfl⟩ := h
  have e : zz (A ++ T) = zz A ++ T := rfl
  rw [e, List.getElem?_append_left (List.getElem?_eq_some_iff.1 hg).1]; exact hg
theorem mkK_ex (Ks : List Nd) (v lo hi : Int) : exK Ks (mkK Ks v lo hi).1 := by
  unfold mkK
  split
  · exact exK.refl _
  · split
    · exact exK.refl _
    · exact ⟨_, rfl⟩
theorem bldK_ex (f : Nat → Bool) : ∀ (d v x : Nat) (Ks : List Nd), exK Ks (bldK f d v x Ks).1
  | 0, _, _, Ks => exK.refl Ks
  | d + 1, v, x, Ks => ((bldK_ex f d (v + 1) x Ks).trans (bldK_ex f d (v + 1) (x + 2 ^ v) _)).trans (mkK_ex _ _ _ _)

/-- A root over the variables from v on. -/
def rtK (Ks : List Nd) (v : Int) (r : Int) : Prop := 0 ≤ r ∧ r < Ks.length + 2 ∧ (1 < r → ∀ h, (zz Ks)[r.toNat]? = some h → v ≤ h.v)
theorem rtK.ex {A B : List Nd} {v r : Int} (h : rtK A v r) (he : exK A B) : rtK B v r := by
  obtain ⟨h0, h1, h2⟩ := h
  have := he.len
  refine ⟨h0, by omega, fun hr g hg => ?_⟩
  obtain ⟨y, hy⟩ := get_of_lt (l := zz A) (k := r.toNat) (by rw [zz_length]; omega)
  have e := he.getz hy
  rw [hg] at e; cases e
  exact h2 hr _ hy
theorem rtK.le {A : List Nd} {v u r : Int} (h : rtK A v r) (hu : u ≤ v) : rtK A u r := ⟨h.1, h.2.1, fun hr g hg => Int.le_trans hu (h.2.2 hr g hg)⟩
/-- The nodes of a diagram over n variables. -/
def okK (n : Int) (Ks : List Nd) : Prop := Ks.Nodup ∧ ∀ (i : Nat) (g : Nd), Ks[i]? = some g → 0 ≤ g.v ∧ g.v < n ∧ g.lo ≠ g.hi ∧ g.lo < i + 2 ∧ g.hi < i + 2 ∧ rtK Ks (g.v + 1) g.lo ∧ rtK Ks (g.v + 1) g.hi
theorem okK_nil (n : Int) : okK n [] := ⟨List.nodup_nil, fun i g h => by cases h⟩
theorem mkK_ok {n : Int} {Ks : List Nd} {v lo hi : Int} (h : okK n Ks) (hv0 : 0 ≤ v) (hv : v < n) (hlo : rtK Ks (v + 1) lo) (hhi : rtK Ks (v + 1) hi) :
    okK n (mkK Ks v lo hi).1 ∧ rtK (mkK Ks v lo hi).1 v (mkK Ks v lo hi).2 := by
  by_cases e : lo = hi
  · subst e; rw [mkK_eq rfl]; exact ⟨h, hlo.le (by omega)⟩
  · cases hf : fdK Ks ⟨v, lo, hi⟩ with
    | some i =>
      rw [mkK_old e hf]
      have hl := fdK_lt hf
      refine ⟨h, by dsimp only; omega, by dsimp only; omega, fun _ g hg => ?_⟩
      dsimp only at hg
      rw [Int.toNat_natCast, zz_get, fdK_some hf] at hg; cases hg
      exact Int.le_refl _
    | none =>
      have hn := mkK_nodup (v := v) (lo := lo) (hi := hi) h.1
      have hex := mkK_ex Ks v lo hi
      rw [mkK_new e hf] at hn hex ⊢
      dsimp only at hn hex ⊢
      refine ⟨⟨hn, fun i g hg => ?_⟩, by omega, by simp; omega, fun _ g hg => ?_⟩
      · by_cases hi' : i < Ks.length
        · rw [List.getElem?_append_left hi'] at hg
          obtain ⟨a1, a2, a3, a4, a5, a6, a7⟩ := h.2 i g hg
          exact ⟨a1, a2, a3, a4, a5, a6.ex hex, a7.ex hex⟩
        · have hil := (List.getElem?_eq_some_iff.1 hg).1
          simp at hil
          obtain rfl : i = Ks.length := by omega
          simp at hg
          subst hg
          have q1 := hlo.2.1; have q2 := hhi.2.1
          exact ⟨hv0, hv, e, by dsimp only; omega, by dsimp only; omega, hlo.ex hex, hhi.ex hex⟩
      · rw [Int.toNat_natCast, zz_get] at hg
        simp at hg
        subst hg
        exact Int.le_refl _
theorem bldK_ok (f : Nat → Bool) (n : Nat) : ∀ (d v x : Nat) (Ks : List Nd), okK n Ks → v + d = n → okK n (bldK f d v x Ks).1 ∧ rtK (bldK f d v x Ks).1 v (bldK f d v x Ks).2
  | 0, v, x, Ks, h, _ => ⟨h, by unfold bldK; dsimp only; split <;> exact ⟨by omega, by omega, fun h => by omega⟩⟩
  | d + 1, v, x, Ks, h, hn => by
    obtain ⟨o1, r1⟩ := bldK_ok f n d (v + 1) x Ks h (by omega)
    obtain ⟨o2, r2⟩ := bldK_ok f n d (v + 1) (x + 2 ^ v) _ o1 (by omega)
    have r3 := r1.ex (bldK_ex f d (v + 1) (x + 2 ^ v) (bldK f d (v + 1) x Ks).1)
    exact mkK_ok o2 (by omega) (by omega) (by simpa using r3) (by simpa using r2)

theorem bit_cast (y k : Nat) : ((y : Int) / 2 ^ k % 2 = 1) ↔ (y / 2 ^ k % 2 = 1) := by
  have : ((y : Int) / 2 ^ k % 2) = ((y / 2 ^ k % 2 : Nat) : Int) := by simp
  rw [this]; omega
theorem mod_step (y v : Nat) : y % 2 ^ (v + 1) = y % 2 ^ v + 2 ^ v * (y / 2 ^ v % 2) := by
  rw [Nat.pow_succ, Nat.mod_mul]
theorem bldK_eval (f : Nat → Bool) (y : Nat) : ∀ (d v x : Nat) (Ks Ls : List Nd) (F : Nat), y % 2 ^ v = x → d ≤ F → exK (bldK f d v x Ks).1 Ls → evalN (zz Ls) y F (bldK f d v x Ks).2.toNat = if f (y % 2 ^ (v + d)) then 1 else 0
  | 0, v, x, Ks, Ls, F, hx, hF, hex => by
    unfold bldK
    dsimp only
    rw [Nat.add_zero, hx]
    cases f x <;> simp [evalN_end]
  | d + 1, v, x, Ks, Ls, F, hx, hF, hex => by
    have e1 := bldK_eval f y d (v + 1) x Ks
    have e2 := bldK_eval f y d (v + 1) (x + 2 ^ v) (bldK f d (v + 1) x Ks).1
    have x1 := bldK_ex f d (v + 1) (x + 2 ^ v) (bldK f d (v + 1) x Ks).1
    have i1 := bldK_id f d (v + 1) x Ks
    have i2 := bldK_id f d (v + 1) (x + 2 ^ v) (bldK f d (v + 1) x Ks).1
    have hs := mod_step y v
    rw [hx] at hs
    have ev : v + (d + 1) = v + 1 + d := by omega
    rw [ev]
    have hb : bldK f (d + 1) v x Ks = mkK (bldK f d (v + 1) (x + 2 ^ v) (bldK f d (v + 1) x Ks).1).1 v (bldK f d (v + 1) x Ks).2 (bldK f d (v + 1) (x + 2 ^ v) (bldK f d (v + 1) x Ks).1).2 := rfl
    rw [hb] at hex ⊢
    generalize hA : bldK f d (v + 1) x Ks = A at *
    obtain ⟨K1, lo⟩ := A
    generalize hB : bldK f d (v + 1) (x + 2 ^ v) K1 = B at *
    obtain ⟨K2, hi⟩ := B
    dsimp only at *
    have hbit : y / 2 ^ v % 2 = 0 ∨ y / 2 ^ v % 2 = 1 := by omega
    by_cases e : lo = hi
    · subst e
      rw [mkK_eq rfl] at hex ⊢
      dsimp only at hex ⊢
      rcases hbit with hb0 | hb1
      · exact e1 Ls F (by rw [hs, hb0]; omega) (by omega) (x1.trans hex)
      · exact e2 Ls F (by rw [hs, hb1]; omega) (by omega) hex
    · have hnode : ∃ k : Nat, (mkK K2 v lo hi).2 = ((k + 2 : Nat) : Int) ∧ (zz Ls)[k + 2]? = some ⟨v, lo, hi⟩ ∧ exK K2 Ls := by
        cases hf : fdK K2 ⟨v, lo, hi⟩ with
        | some i =>
          rw [mkK_old e hf] at hex ⊢
          exact ⟨i, rfl, hex.getz (by rw [zz_get]; exact fdK_some hf), hex⟩
        | none =>
          rw [mkK_new e hf] at hex ⊢
          exact ⟨K2.length, rfl, hex.getz (by rw [zz_get]; simp), exK.trans ⟨_, rfl⟩ hex⟩
      obtain ⟨k, hk, hg, hx2⟩ := hnode
      rw [hk, Int.toNat_natCast]
      obtain ⟨F, rfl⟩ : ∃ F', F = F' + 1 := ⟨F - 1, by omega⟩
      rcases hbit with hb0 | hb1
      · rw [evalN_lo hg (by omega) (by dsimp only; rw [Int.toNat_natCast, bit_cast]; omega)]
        exact e1 Ls F (by rw [hs, hb0]; omega) (by omega) (x1.trans hx2)
      · rw [evalN_hi hg (by omega) (by dsimp only; rw [Int.toNat_natCast, bit_cast]; omega)]
        exact e2 Ls F (by rw [hs, hb1]; omega) (by omega) hx2
theorem bldK_congr (f g : Nat → Bool) : ∀ (d v x : Nat) (Ks : List Nd), x < 2 ^ v → (∀ y, y < 2 ^ (v + d) → f y = g y) → bldK f d v x Ks = bldK g d v x Ks
  | 0, v, x, Ks, hx, h => by unfold bldK; rw [h x (by simpa using hx)]
  | d + 1, v, x, Ks, hx, h => by
    have ev : v + (d + 1) = v + 1 + d := by omega
    rw [ev] at h
    have hp : 2 ^ (v + 1) = 2 ^ v + 2 ^ v := by rw [Nat.pow_succ]; omega
    unfold bldK
    rw [bldK_congr f g d (v + 1) x Ks (by omega) h, bldK_congr f g d (v + 1) (x + 2 ^ v) _ (by omega) h]

def cmpI (r : Int) : Int := if r = 0 then 1 else if r = 1 then 0 else r
theorem cmpI_inj {a b : Int} (h : cmpI a = cmpI b) : a = b := by unfold cmpI at h; split at h <;> split at h <;> (try split at h) <;> (try split at h) <;> omega
theorem cmpI_ge {a : Int} (h : 2 ≤ a) : cmpI a = a := by unfold cmpI; rw [if_neg (by omega), if_neg (by omega)]
def cmpN (g : Nd) : Nd := ⟨g.v, cmpI g.lo, cmpI g.hi⟩
theorem cmpN_inj {a b : Nd} (h : cmpN a = cmpN b) : a = b := by
  unfold cmpN at h; cases a; cases b; simp only [Nd.mk.injEq] at h
  exact Nd.ext' h.1 (cmpI_inj h.2.1) (cmpI_inj h.2.2)
theorem fdK_cmp (Ks : List Nd) (x : Nd) : fdK (Ks.map cmpN) (cmpN x) = fdK Ks x := by
  induction Ks with
  | nil => rfl
  | cons y ys ih =>
    show (if cmpN x = cmpN y then some 0 else _) = (if x = y then some 0 else _)
    rw [ih]
    by_cases e : x = y
    · rw [if_pos (by rw [e]), if_pos e]
    · rw [if_neg (fun h => e (cmpN_inj h)), if_neg e]
theorem mkK_cmp (Ks : List Nd) (v lo hi : Int) : mkK (Ks.map cmpN) v (cmpI lo) (cmpI hi) = ((mkK Ks v lo hi).1.map cmpN, cmpI (mkK Ks v lo hi).2) := by
  by_cases e : lo = hi
  · subst e; rw [mkK_eq rfl, mkK_eq rfl]
  · have e' : cmpI lo ≠ cmpI hi := fun h => e (cmpI_inj h)
    have hc : fdK (Ks.map cmpN) ⟨v, cmpI lo, cmpI hi⟩ = fdK Ks ⟨v, lo, hi⟩ := fdK_cmp Ks ⟨v, lo, hi⟩
    cases hf : fdK Ks ⟨v, lo, hi⟩ with
    | some i => rw [mkK_old e hf, mkK_old e' (hc.trans hf)]; simp only [Prod.mk.injEq, true_and]; rw [cmpI_ge (by omega)]
    | none => rw [mkK_new e hf, mkK_new e' (hc.trans hf)]; simp only [Prod.mk.injEq, List.map_append, List.map_cons, List.map_nil, List.length_map]; exact ⟨rfl, by rw [cmpI_ge (by omega)]⟩
theorem bldK_cmp (f : Nat → Bool) : ∀ (d v x : Nat) (Ks : List Nd), bldK (fun y => !f y) d v x (Ks.map cmpN) = ((bldK f d v x Ks).1.map cmpN, cmpI (bldK f d v x Ks).2)
  | 0, v, x, Ks => by unfold bldK; cases f x <;> rfl
  | d + 1, v, x, Ks => by
    unfold bldK
    rw [bldK_cmp f d (v + 1) x Ks]
    dsimp only
    rw [bldK_cmp f d (v + 1) (x + 2 ^ v) _]
    dsimp only
    rw [mkK_cmp]
theorem bldK_zero (f : Nat → Bool) : ∀ (d v x : Nat) (Ks : List Nd), x < 2 ^ v → (∀ y, y < 2 ^ (v + d) → f y = false) → bldK f d v x Ks = (Ks, 0)
  | 0, v, x, Ks, hx, h => by unfold bldK; rw [h x (by simpa using hx)]; rfl
  | d + 1, v, x, Ks, hx, h => by
    have ev : v + (d + 1) = v + 1 + d := by omega
    rw [ev] at h
    have hp : 2 ^ (v + 1) = 2 ^ v + 2 ^ v := by rw [Nat.pow_succ]; omega
    unfold bldK
    rw [bldK_zero f d (v + 1) x Ks (by omega) h]
    dsimp only
    rw [bldK_zero f d (v + 1) (x + 2 ^ v) _ (by omega) h, mkK_eq rfl]

/-- The diagram of a function of n variables. -/
def bdK (f : Nat → Bool) (n : Nat) : Bd := ⟨zz (bldK f n 0 0 []).1, (bldK f n 0 0 []).2⟩
theorem bdK_len (f : Nat → Bool) {n : Nat} (hn : n ≤ 7) : (bdK f n).nodes.length ≤ 130 := by
  have h := (bldK_len f n 0 0 []).2
  have h7 : 2 ^ n ≤ 2 ^ 7 := Nat.pow_le_pow_right (by omega) hn
  show (zz _).length ≤ 130
  rw [zz_length]
  simp at h; omega
theorem bdK_valid (f : Nat → Bool) {n : Nat} (hn : n ≤ 7) : (bdK f n).validB = true := by
  obtain ⟨⟨o1, o2⟩, r0, r1, -⟩ := bldK_ok f n n 0 0 [] (okK_nil _) (by omega)
  have hl := bdK_len f hn
  refine Bd.validB_true ⟨⟨by show 2 ≤ (zz _).length; rw [zz_length]; omega, by omega, r0, by show _ < (((zz _).length : Nat) : Int); rw [zz_length]; simpa [bdK] using r1, rfl, rfl⟩, fun i hi h2 => ?_⟩
  obtain ⟨g, hg⟩ := get_of_lt hi
  rw [getD_of hg]
  obtain ⟨i, rfl⟩ : ∃ j, i = j + 2 := ⟨i - 2, by omega⟩
  have hgi : (bldK f n 0 0 []).1[i]? = some g := hg
  obtain ⟨a1, a2, a3, a4, a5, a6, a7⟩ := o2 i g hgi
  refine ⟨⟨a1, by omega, a6.1, by omega, a7.1, by omega, a3⟩, fun h => ?_, fun h => ?_, fun k hk hk2 he => ?_⟩
  · obtain ⟨y, hy⟩ := get_of_lt (l := zz (bldK f n 0 0 []).1) (k := g.lo.toNat) (by rw [zz_length]; have := a6.2.1; omega)
    have := a6.2.2 h y hy
    rw [show (bdK f n).nodes = zz (bldK f n 0 0 []).1 from rfl, getD_of hy]; omega
  · obtain ⟨y, hy⟩ := get_of_lt (l := zz (bldK f n 0 0 []).1) (k := g.hi.toNat) (by rw [zz_length]; have := a7.2.1; omega)
    have := a7.2.2 h y hy
    rw [show (bdK f n).nodes = zz (bldK f n 0 0 []).1 from rfl, getD_of hy]; omega
  · obtain ⟨k, rfl⟩ : ∃ j, k = j + 2 := ⟨k - 2, by omega⟩
    have hek : (bldK f n 0 0 []).1[k]? = some g := he
    have := (List.getElem?_inj (List.getElem?_eq_some_iff.1 hek).1 o1).1 (hek.trans hgi.symm)
    omega
theorem bdK_eval (f : Nat → Bool) {n : Nat} (hn : n ≤ 7) (y : Nat) : (bdK f n).evalB y = f (y % 2 ^ n) := by
  rw [evalB_eq (bdK_valid f hn) (by omega)]
  have h := bldK_eval f y n 0 0 [] (bldK f n 0 0 []).1 1000 (by simp [Nat.mod_one]) (by omega) (exK.refl _)
  rw [Nat.zero_add] at h
  show decide (evalN (zz (bldK f n 0 0 []).1) y 1000 (bldK f n 0 0 []).2.toNat = 1) = _
  rw [h]
  cases f (y % 2 ^ n) <;> rfl
theorem bdK_iff (f g : Nat → Bool) {n : Nat} (hn : n ≤ 7) : bdK f n = bdK g n ↔ ∀ y, y < 2 ^ n → f y = g y := by
  constructor
  · intro h y hy
    have e1 := bdK_eval f hn y
    have e2 := bdK_eval g hn y
    rw [h, e2] at e1
    rw [Nat.mod_eq_of_lt hy] at e1
    exact e1.symm
  · intro h
    unfold bdK
    rw [bldK_congr f g n 0 0 [] (by simp) (by simpa using h)]
theorem bdK_cmp_len (f : Nat → Bool) (n : Nat) : (bdK (fun y => !f y) n).nodes.length = (bdK f n).nodes.length := by
  have h := bldK_cmp f n 0 0 []
  simp only [List.map_nil] at h
  show (zz _).length = (zz _).length
  rw [zz_length, zz_length, h]; simp
theorem bdK_root (f : Nat → Bool) {n : Nat} (hn : n ≤ 7) : (bdK f n).root = 0 ↔ ∀ y, y < 2 ^ n → f y = false := by
  constructor
  · intro h y hy
    have e := bdK_eval f hn y
    rw [Nat.mod_eq_of_lt hy, evalB_eq (bdK_valid f hn) (by omega), h] at e
    rw [← e]; simp [evalN_end]
  · intro h
    show (bldK f n 0 0 []).2 = 0
    rw [bldK_zero f n 0 0 [] (by simp) (by simpa using h)]
theorem bdK_fine (f : Nat → Bool) {n : Nat} (hn : n ≤ 7) : (bdK f n).fine n := by
  refine ⟨bdK_valid f hn, by omega, by omega, fun i hi h2 => ?_⟩
  obtain ⟨⟨o1, o2⟩, -⟩ := bldK_ok f n n 0 0 [] (okK_nil _) (by omega)
  obtain ⟨g, hg⟩ := get_of_lt hi
  rw [getD_of hg]
  obtain ⟨i, rfl⟩ : ∃ j, i = j + 2 := ⟨i - 2, by omega⟩
  exact (o2 i g hg).2.1
theorem bdK_cnt (f : Nat → Bool) {n : Nat} (hn : n ≤ 7) : ∀ m, m ≤ 2 ^ n → cntB (bdK f n) m + cntB (bdK (fun y => !f y) n) m = m
  | 0, _ => rfl
  | m + 1, h => by
    have ih := bdK_cnt f hn m (by omega)
    rw [cntB_succ, cntB_succ, bdK_eval f hn, bdK_eval _ hn, Nat.mod_eq_of_lt (by omega)]
    cases f m <;> simp <;> omega
theorem bdK_count (f : Nat → Bool) {n : Nat} (hn : n ≤ 7) : (bdK f n).count n + (bdK (fun y => !f y) n).count n = 2 ^ n := by
  rw [count_yes (bdK_fine f hn), count_yes (bdK_fine _ hn), Int.toNat_natCast]
  have := bdK_cnt f hn (2 ^ n) (Nat.le_refl _)
  have e : ((2 ^ n : Nat) : Int) = 2 ^ n := by simp
  rw [← e]; omega

end Go.Proofs.Ytindndcdpnpcmaa
