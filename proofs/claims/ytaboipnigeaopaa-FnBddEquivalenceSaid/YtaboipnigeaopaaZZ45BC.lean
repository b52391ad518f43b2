import Derived.Test.YtaboipnigeaopaaZZ45V2
import Derived.Test.YtaboipnigeaopaaZZ45Y0
import Derived.Test.YtaboipnigeaopaaZZ45L4
import Derived.Test.YtaboipnigeaopaaZZ45OH
namespace Go.Proofs.Ytaboipnigeaopaa
set_option linter.unusedVariables false
set_option linter.unusedSimpArgs false
open Go.RowKit

/-! Part of the proof of one law. -/

def fdK : List Nd → Nd → Option Nat
  | [], _ => none
  | y :: ys, x => if x = y then some 0 else (fdK ys x).map (· + 1)

theorem fdK_some {Ks : List Nd} {x : Nd} : ∀ {i : Nat}, fdK Ks x = some i → Ks[i]? = some x := by
  induction Ks with
  | nil => intro i h; cases h
  | cons y ys ih =>
    intro i h
    unfold fdK at h
    by_cases e : x = y
    · rw [if_pos e] at h
      simp only [Option.some.injEq] at h
      subst h; rw [e]; rfl
    · rw [if_neg e, Option.map_eq_some_iff] at h
      obtain ⟨j, hj, rfl⟩ := h
      exact ih hj

theorem fdK_none {Ks : List Nd} {x : Nd} (h : fdK Ks x = none) : x ∉ Ks := by
  induction Ks with
  | nil => simp
  | cons y ys ih =>
    unfold fdK at h
    by_cases e : x = y
    · rw [if_pos e] at h; cases h
    · rw [if_neg e, Option.map_eq_none_iff] at h
      simp [e, ih h]

theorem fdK_lt {Ks : List Nd} {x : Nd} {i : Nat} (h : fdK Ks x = some i) : i < Ks.length := (List.getElem?_eq_some_iff.1 (fdK_some h)).1

def mkK (Ks : List Nd) (v lo hi : Int) : List Nd × Int :=
  if lo = hi then (Ks, lo) else match fdK Ks ⟨v, lo, hi⟩ with
    | some i => (Ks, ((i + 2 : Nat) : Int))
    | none => (Ks ++ [⟨v, lo, hi⟩], ((Ks.length + 2 : Nat) : Int))

theorem mkK_eq {Ks : List Nd} {v lo hi : Int} (h : lo = hi) : mkK Ks v lo hi = (Ks, lo) := by unfold mkK; rw [if_pos h]

theorem mkK_old {Ks : List Nd} {v lo hi : Int} {i : Nat} (h : lo ≠ hi) (hf : fdK Ks ⟨v, lo, hi⟩ = some i) : mkK Ks v lo hi = (Ks, ((i + 2 : Nat) : Int)) := by unfold mkK; rw [if_neg h, hf]

theorem mkK_new {Ks : List Nd} {v lo hi : Int} (h : lo ≠ hi) (hf : fdK Ks ⟨v, lo, hi⟩ = none) : mkK Ks v lo hi = (Ks ++ [⟨v, lo, hi⟩], ((Ks.length + 2 : Nat) : Int)) := by unfold mkK; rw [if_neg h, hf]

def bldK (f : Nat → Bool) : Nat → Nat → Nat → List Nd → List Nd × Int
  | 0, _, x, Ks => (Ks, if f x then 1 else 0)
  | d + 1, v, x, Ks => mkK (bldK f d (v + 1) (x + 2 ^ v) (bldK f d (v + 1) x Ks).1).1 v (bldK f d (v + 1) x Ks).2 (bldK f d (v + 1) (x + 2 ^ v) (bldK f d (v + 1) x Ks).1).2

theorem mkK_len (Ks : List Nd) (v lo hi : Int) : Ks.length ≤ (mkK Ks v lo hi).1.length ∧ (mkK Ks v lo hi).1.length ≤ Ks.length + 1 := by
  unfold mkK
  split
  · simp
  · split <;> simp

theorem bldK_len (f : Nat → Bool) : ∀ (d v x : Nat) (Ks : List Nd), Ks.length ≤ (bldK f d v x Ks).1.length ∧ (bldK f d v x Ks).1.length + 1 ≤ Ks.length + 2 ^ d
  | 0, v, x, Ks => by simp [bldK]
  | d + 1, v, x, Ks => by
    have h1 := bldK_len f d (v + 1) x Ks
    have h2 := bldK_len f d (v + 1) (x + 2 ^ v) (bldK f d (v + 1) x Ks).1
    have h3 := mkK_len (bldK f d (v + 1) (x + 2 ^ v) (bldK f d (v + 1) x Ks).1).1 v (bldK f d (v + 1) x Ks).2 (bldK f d (v + 1) (x + 2 ^ v) (bldK f d (v + 1) x Ks).1).2
    have hs : 2 ^ (d + 1) = 2 ^ d + 2 ^ d := by rw [Nat.pow_succ]; omega
    unfold bldK
    rw [hs]
    omega

theorem mkK_id {Ks : List Nd} {v lo hi : Int} (h0 : 0 ≤ lo) (h1 : lo < Ks.length + 2) : 0 ≤ (mkK Ks v lo hi).2 ∧ (mkK Ks v lo hi).2 < (mkK Ks v lo hi).1.length + 2 := by
  unfold mkK
  split
  · exact ⟨h0, h1⟩
  · split
    · rename_i i hi
      have := fdK_lt hi
      exact ⟨by omega, by simp; omega⟩
    · exact ⟨by omega, by simp; omega⟩

theorem bldK_id (f : Nat → Bool) : ∀ (d v x : Nat) (Ks : List Nd), 0 ≤ (bldK f d v x Ks).2 ∧ (bldK f d v x Ks).2 < (bldK f d v x Ks).1.length + 2
  | 0, v, x, Ks => by unfold bldK; dsimp only; split <;> omega
  | d + 1, v, x, Ks => by
    have h1 := bldK_id f d (v + 1) x Ks
    have h2 := bldK_len f d (v + 1) (x + 2 ^ v) (bldK f d (v + 1) x Ks).1
    unfold bldK
    exact mkK_id h1.1 (by omega)

theorem mkK_nodup {Ks : List Nd} {v lo hi : Int} (h : Ks.Nodup) : (mkK Ks v lo hi).1.Nodup := by
  unfold mkK
  split
  · exact h
  · split
    · exact h
    · rename_i hn
      exact List.nodup_append.2 ⟨h, by simp, fun a ha b hb e => by simp at hb; subst hb; subst e; exact fdK_none hn ha⟩

def zz (Ks : List Nd) : List Nd := ⟨0, 0, 0⟩ :: ⟨0, 0, 0⟩ :: Ks

theorem zz_length (Ks : List Nd) : (zz Ks).length = Ks.length + 2 := rfl

theorem zz_get {Ks : List Nd} {i : Nat} : (zz Ks)[i + 2]? = Ks[i]? := rfl

theorem zz_app (Ks : List Nd) (x : Nd) : zz (Ks ++ [x]) = zz Ks ++ [x] := rfl

/-! What the diagram of a function says: validity, values, equality, complements, counts. -/

def exK (A B : List Nd) : Prop := ∃ T, B = A ++ T

theorem exK.refl (A : List Nd) : exK A A := ⟨[], by simp⟩

theorem exK.trans {A B C : List Nd} (h : exK A B) (k : exK B C) : exK A C := by
  obtain ⟨T, rfl⟩ := h; obtain ⟨U, rfl⟩ := k; exact ⟨T ++ U, by simp⟩

theorem exK.len {A B : List Nd} (h : exK A B) : A.length ≤ B.length := by obtain ⟨T, rfl⟩ := h; simp

theorem exK.getz {A B : List Nd} (h : exK A B) {i : Nat} {g : Nd} (hg : (zz A)[i]? = some g) : (zz B)[i]? = some g := by
  obtain ⟨T, rfl⟩ := h
  have e : zz (A ++ T) = zz A ++ T := rfl
  rw [e, List.getElem?_append_left (List.getElem?_eq_some_iff.1 hg).1]; exact hg

theorem mkK_ex (Ks : List Nd) (v lo hi : Int) : exK Ks (mkK Ks v lo hi).1 := by
  unfold mkK
  split
  · exact exK.refl _
  · split
    · exact exK.refl _
    · exact ⟨_, rfl⟩

theorem bldK_ex (f : Nat → Bool) : ∀ (d v x : Nat) (Ks : List Nd), exK Ks (bldK f d v x Ks).1
  | 0, _, _, Ks => exK.refl Ks
  | d + 1, v, x, Ks => ((bldK_ex f d (v + 1) x Ks).trans (bldK_ex f d (v + 1) (x + 2 ^ v) _)).trans (mkK_ex _ _ _ _)

/-- A root over the variables from v on. -/
def rtK (Ks : List Nd) (v : Int) (r : Int) : Prop := 0 ≤ r ∧ r < Ks.length + 2 ∧ (1 < r → ∀ h, (zz Ks)[r.toNat]? = some h → v ≤ h.v)

theorem rtK.ex {A B : List Nd} {v r : Int} (h : rtK A v r) (he : exK A B) : rtK B v r := by
  obtain ⟨h0, h1, h2⟩ := h
  have := he.len
  refine ⟨h0, by omega, fun hr g hg => ?_⟩
  obtain ⟨y, hy⟩ := get_of_lt (l := zz A) (k := r.toNat) (by rw [zz_length]; omega)
  have e := he.getz hy
  rw [hg] at e; cases e
  exact h2 hr _ hy

theorem rtK.le {A : List Nd} {v u r : Int} (h : rtK A v r) (hu : u ≤ v) : rtK A u r := ⟨h.1, h.2.1, fun hr g hg => Int.le_trans hu (h.2.2 hr g hg)⟩

/-- The nodes of a diagram over n variables. -/
def okK (n : Int) (Ks : List Nd) : Prop := Ks.Nodup ∧ ∀ (i : Nat) (g : Nd), Ks[i]? = some g → 0 ≤ g.v ∧ g.v < n ∧ g.lo ≠ g.hi ∧ g.lo < i + 2 ∧ g.hi < i + 2 ∧ rtK Ks (g.v + 1) g.lo ∧ rtK Ks (g.v + 1) g.hi

theorem okK_nil (n : Int) : okK n [] := ⟨List.nodup_nil, fun i g h => by cases h⟩

theorem mkK_ok {n : Int} {Ks : List Nd} {v lo hi : Int} (h : okK n Ks) (hv0 : 0 ≤ v) (hv : v < n) (hlo : rtK Ks (v + 1) lo) (hhi : rtK Ks (v + 1) hi) :
    okK n (mkK Ks v lo hi).1 ∧ rtK (mkK Ks v lo hi).1 v (mkK Ks v lo hi).2 := by
  by_cases e : lo = hi
  · subst e; rw [mkK_eq rfl]; exact ⟨h, hlo.le (by omega)⟩
  · cases hf : fdK Ks ⟨v, lo, hi⟩ with
    | some i =>
      rw [mkK_old e hf]
      have hl := fdK_lt hf
      refine ⟨h, by dsimp only; omega, by dsimp only; omega, fun _ g hg => ?_⟩
      dsimp only at hg
      rw [Int.toNat_natCast, zz_get, fdK_some hf] at hg; cases hg
      exact Int.le_refl _
    | none =>
      have hn := mkK_nodup (v := v) (lo := lo) (hi := hi) h.1
      have hex := mkK_ex Ks v lo hi
      rw [mkK_new e hf] at hn hex ⊢
      dsimp only at hn hex ⊢
      refine ⟨⟨hn, fun i g hg => ?_⟩, by omega, by simp; omega, fun _ g hg => ?_⟩
      · by_cases hi' : i < Ks.length
        · rw [List.getElem?_append_left hi'] at hg
          obtain ⟨a1, a2, a3, a4, a5, a6, a7⟩ := h.2 i g hg
          exact ⟨a1, a2, a3, a4, a5, a6.ex hex, a7.ex hex⟩
        · have hil := (List.getElem?_eq_some_iff.1 hg).1
          simp at hil
          obtain rfl : i = Ks.length := by omega
          simp at hg
          subst hg
          have q1 := hlo.2.1; have q2 := hhi.2.1
          exact ⟨hv0, hv, e, by dsimp only; omega, by dsimp only; omega, hlo.ex hex, hhi.ex hex⟩
      · rw [Int.toNat_natCast, zz_get] at hg
        simp at hg
        subst hg
        exact Int.le_refl _

theorem bldK_ok (f : Nat → Bool) (n : Nat) : ∀ (d v x : Nat) (Ks : List Nd), okK n Ks → v + d = n → okK n (bldK f d v x Ks).1 ∧ rtK (bldK f d v x Ks).1 v (bldK f d v x Ks).2
  | 0, v, x, Ks, h, _ => ⟨h, by unfold bldK; dsimp only; split <;> exact ⟨by omega, by omega, fun h => by omega⟩⟩
  | d + 1, v, x, Ks, h, hn => by
    obtain ⟨o1, r1⟩ := bldK_ok f n d (v + 1) x Ks h (by omega)
    obtain ⟨o2, r2⟩ := bldK_ok f n d (v + 1) (x + 2 ^ v) _ o1 (by omega)
    have r3 := r1.ex (bldK_ex f d (v + 1) (x + 2 ^ v) (bldK f d (v + 1) x Ks).1)
    exact mkK_ok o2 (by omega) (by omega) (by simpa using r3) (by simpa using r2)

theorem bit_cast (y k : Nat) : ((y : Int) / 2 ^ k % 2 = 1) ↔ (y / 2 ^ k % 2 = 1) := by
  have : ((y : Int) / 2 ^ k % 2) = ((y / 2 ^ k % 2 : Nat) : Int) := by simp
  rw [this]; omega

theorem mod_step (y v : Nat) : y % 2 ^ (v + 1) = y % 2 ^ v + 2 ^ v * (y / 2 ^ v % 2) := by
  rw [Nat.pow_succ, Nat.mod_mul]

theorem bldK_eval (f : Nat → Bool) (y : Nat) : ∀ (d v x : Nat) (Ks Ls : List Nd) (F : Nat), y % 2 ^ v = x → d ≤ F → exK (bldK f d v x Ks).1 Ls → evalN (zz Ls) y F (bldK f d v x Ks).2.toNat = if f (y % 2 ^ (v + d)) then 1 else 0
  | 0, v, x, Ks, Ls, F, hx, hF, hex => by
    unfold bldK
    dsimp only
    rw [Nat.add_zero, hx]
    cases f x <;> simp [evalN_end]
  | d + 1, v, x, Ks, Ls, F, hx, hF, hex => by
    have e1 := bldK_eval f y d (v + 1) x Ks
    have e2 := bldK_eval f y d (v + 1) (x + 2 ^ v) (bldK f d (v + 1) x Ks).1
    have x1 := bldK_ex f d (v + 1) (x + 2 ^ v) (bldK f d (v + 1) x Ks).1
    have i1 := bldK_id f d (v + 1) x Ks
    have i2 := bldK_id f d (v + 1) (x + 2 ^ v) (bldK f d (v + 1) x Ks).1
    have hs := mod_step y v
    rw [hx] at hs
    have ev : v + (d + 1) = v + 1 + d := by omega
    rw [ev]
    have hb : bldK f (d + 1) v x Ks = mkK (bldK f d (v + 1) (x + 2 ^ v) (bldK f d (v + 1) x Ks).1).1 v (bldK f d (v + 1) x Ks).2 (bldK f d (v + 1) (x + 2 ^ v) (bldK f d (v + 1) x Ks).1).2 := rfl
    rw [hb] at hex ⊢
    generalize hA : bldK f d (v + 1) x Ks = A at *
    obtain ⟨K1, lo⟩ := A
    generalize hB : bldK f d (v + 1) (x + 2 ^ v) K1 = B at *
    obtain ⟨K2, hi⟩ := B
    dsimp only at *
    have hbit : y / 2 ^ v % 2 = 0 ∨ y / 2 ^ v % 2 = 1 := by omega
    by_cases e : lo = hi
    · subst e
      rw [mkK_eq rfl] at hex ⊢
      dsimp only at hex ⊢
      rcases hbit with hb0 | hb1
      · exact e1 Ls F (by rw [hs, hb0]; omega) (by omega) (x1.trans hex)
      · exact e2 Ls F (by rw [hs, hb1]; omega) (by omega) hex
    · have hnode : ∃ k : Nat, (mkK K2 v lo hi).2 = ((k + 2 : Nat) : Int) ∧ (zz Ls)[k + 2]? = some ⟨v, lo, hi⟩ ∧ exK K2 Ls := by
        cases hf : fdK K2 ⟨v, lo, hi⟩ with
        | some i =>
          rw [mkK_old e hf] at hex ⊢
          exact ⟨i, rfl, hex.getz (by rw [zz_get]; exact fdK_some hf), hex⟩
        | none =>
          rw [mkK_new e hf] at hex ⊢
          exact ⟨K2.length, rfl, hex.getz (by rw [zz_get]; simp), exK.trans ⟨_, rfl⟩ hex⟩
      obtain ⟨k, hk, hg, hx2⟩ := hnode
      rw [hk, Int.toNat_natCast]
      obtain ⟨F, rfl⟩ : ∃ F', F = F' + 1 := ⟨F - 1, by omega⟩
      rcases hbit with hb0 | hb1
      · rw [evalN_lo hg (by omega) (by dsimp only; rw [Int.toNat_natCast, bit_cast]; omega)]
        exact e1 Ls F (by rw [hs, hb0]; omega) (by omega) (x1.trans hx2)
      · rw [evalN_hi hg (by omega) (by dsimp only; rw [Int.toNat_natCast, bit_cast]; omega)]
        exact e2 Ls F (by rw [hs, hb1]; omega) (by omega) hx2

theorem bldK_congr (f g : Nat → Bool) : ∀ (d v x : Nat) (Ks : List Nd), x < 2 ^ v → (∀ y, y < 2 ^ (v + d) → f y = g y) → bldK f d v x Ks = bldK g d v x Ks
  | 0, v, x, Ks, hx, h => by unfold bldK; rw [h x (by simpa using hx)]
  | d + 1, v, x, Ks, hx, h => by
    have ev : v + (d + 1) = v + 1 + d := by omega
    rw [ev] at h
    have hp : 2 ^ (v + 1) = 2 ^ v + 2 ^ v := by rw [Nat.pow_succ]; omega
    unfold bldK
    rw [bldK_congr f g d (v + 1) x Ks (by omega) h, bldK_congr f g d (v + 1) (x + 2 ^ v) _ (by omega) h]

/-- The diagram of a function of n variables. -/
def bdK (f : Nat → Bool) (n : Nat) : Bd := ⟨zz (bldK f n 0 0 []).1, (bldK f n 0 0 []).2⟩

theorem bdK_len (f : Nat → Bool) {n : Nat} (hn : n ≤ 7) : (bdK f n).nodes.length ≤ 130 := by
  have h := (bldK_len f n 0 0 []).2
  have h7 : 2 ^ n ≤ 2 ^ 7 := Nat.pow_le_pow_right (by omega) hn
  show (zz _).length ≤ 130
  rw [zz_length]
  simp at h; omega

theorem bdK_valid (f : Nat → Bool) {n : Nat} (hn : n ≤ 7) : (bdK f n).validB = true := by
  obtain ⟨⟨o1, o2⟩, r0, r1, -⟩ := bldK_ok f n n 0 0 [] (okK_nil _) (by omega)
  have hl := bdK_len f hn
  refine Bd.validB_true ⟨⟨by show 2 ≤ (zz _).length; rw [zz_length]; omega, by omega, r0, by show _ < (((zz _).length : Nat) : Int); rw [zz_length]; simpa [bdK] using r1, rfl, rfl⟩, fun i hi h2 => ?_⟩
  obtain ⟨g, hg⟩ := get_of_lt hi
  rw [getD_of hg]
  obtain ⟨i, rfl⟩ : ∃ j, i = j + 2 := ⟨i - 2, by omega⟩
  have hgi : (bldK f n 0 0 []).1[i]? = some g := hg
  obtain ⟨a1, a2, a3, a4, a5, a6, a7⟩ := o2 i g hgi
  refine ⟨⟨a1, by omega, a6.1, by omega, a7.1, by omega, a3⟩, fun h => ?_, fun h => ?_, fun k hk hk2 he => ?_⟩
  · obtain ⟨y, hy⟩ := get_of_lt (l := zz (bldK f n 0 0 []).1) (k := g.lo.toNat) (by rw [zz_length]; have := a6.2.1; omega)
    have := a6.2.2 h y hy
    rw [show (bdK f n).nodes = zz (bldK f n 0 0 []).1 from rfl, getD_of hy]; omega
  · obtain ⟨y, hy⟩ := get_of_lt (l := zz (bldK f n 0 0 []).1) (k := g.hi.toNat) (by rw [zz_length]; have := a7.2.1; omega)
    have := a7.2.2 h y hy
    rw [show (bdK f n).nodes = zz (bldK f n 0 0 []).1 from rfl, getD_of hy]; omega
  · obtain ⟨k, rfl⟩ : ∃ j, k = j + 2 := ⟨k - 2, by omega⟩
    have hek : (bldK f n 0 0 []).1[k]? = some g := he
    have := (List.getElem?_inj (List.getElem?_eq_some_iff.1 hek).1 o1).1 (hek.trans hgi.symm)
    omega

theorem bdK_eval (f : Nat → Bool) {n : Nat} (hn : n ≤ 7) (y : Nat) : (bdK f n).evalB y = f (y % 2 ^ n) := by
  rw [evalB_eq (bdK_valid f hn) (by omega)]
  have h := bldK_eval f y n 0 0 [] (bldK f n 0 0 []).1 1000 (by simp [Nat.mod_one]) (by omega) (exK.refl _)
  rw [Nat.zero_add] at h
  show decide (evalN (zz (bldK f n 0 0 []).1) y 1000 (bldK f n 0 0 []).2.toNat = 1) = _
  rw [h]
  cases f (y % 2 ^ n) <;> rfl

theorem bdK_iff (f g : Nat → Bool) {n : Nat} (hn : n ≤ 7) : bdK f n = bdK g n ↔ ∀ y, y < 2 ^ n → f y = g y := by
  constructor
  · intro h y hy
    have e1 := bdK_eval f hn y
    have e2 := bdK_eval g hn y
    rw [h, e2] at e1
    rw [Nat.mod_eq_of_lt hy] at e1
    exact e1.symm
  · intro h
    unfold bdK
    rw [bldK_congr f g n 0 0 [] (by simp) (by simpa using h)]

def litF (c : Cir) (l : Int) (x : Nat) : Bool := litB (evalV c (x : Int) (-1) false) l

def tabF (f : Nat → Bool) (N : Nat) : List Bool := (List.range N).map f

theorem tabF_length (f : Nat → Bool) (N : Nat) : (tabF f N).length = N := by simp [tabF]

theorem tabF_succ (f : Nat → Bool) (N : Nat) : tabF f (N + 1) = tabF f N ++ [f N] := by simp [tabF, List.range_succ]

theorem tabF_getD (f : Nat → Bool) {N x : Nat} (h : x < N) : (tabF f N).getD x false = f x := by
  simp [tabF, List.getD_eq_getElem?_getD, h]

theorem litValueN_any (s : Option Addr) (vs : List Bool) (n cap : Nat) (l : Int) (w : World) (hn : vs.length = n) (h : Sl w s (bools vs)) (h0 : 0 ≤ l) (h1 : l ≤ 1000000) (h2 : l / 2 < n) :
    Calls Try.prog 77 #[.slice s n cap, .int .i64 l] w fun e w' => e = .returned (.bool (litB vs l)) ∧ w = w' := by
  subst hn; exact litValue_any s vs cap l w h h0 h1 h2

set_option maxRecDepth 100000 in
set_option maxHeartbeats 1600000 in
theorem litTable_any (b : Nat) (sn sg : Option Addr) (cn cg : Nat) (vo : Value) (c : Cir) (l : Int) (w : World)
    (h : CirAt w b c.inp (.slice sn c.next.length cn) (.slice sg c.gates.length cg) vo) (hg : Sl w sg (gcells c.gates)) (hv : c.valid) (l0 : 0 ≤ l) (l2 : l < 2 * c.vars) :
    Calls Try.prog 57 #[.pointer (some ⟨b, 0, none⟩), .int .i64 l] w fun e w' => ∃ s cap, e = .returned (.slice s (asgN c) cap) ∧ w'.ownsRow w.heap.size 4 1 (.slice s (asgN c) cap) (asgN c) (bools (tabF (litF c l) (asgN c))) ∧ Below w.heap.size w w' := by
  have HB : Hid (b < w.heap.size) := World.block_lt_of_cell? w _ h.h0
  obtain ⟨f1, f2, f3, f4⟩ := valid_first hv
  obtain ⟨q1, q2, q3, q4, q5⟩ := id hv.lim
  obtain ⟨n1, n2⟩ := asgN_le hv
  have eF : c.first = 1 + c.inp + c.next.length := rfl
  obtain ⟨ni, hni⟩ : ∃ ni : Nat, c.inp = ni := ⟨c.inp.toNat, by omega⟩
  obtain ⟨N, hN⟩ : ∃ N, N = asgN c := ⟨_, rfl⟩
  obtain ⟨V, hV⟩ : ∃ V : Nat, c.vars = V := ⟨c.vars.toNat, by omega⟩
  have n4 : ni ≤ 4 := by omega
  have v1 : 1 ≤ V := by omega
  have v2 : V ≤ 22 := by omega
  have l3 : l ≤ 100 := by omega
  have lV : l / 2 < V := by omega
  rw [← hN] at n1 n2 ⊢
  have hEl : ∀ x, (evalV c x (-1) false).length = V := fun x => by have := evalV_length c x (-1) false; omega
  have H := Lib.hid (And.intro h (And.intro hg (And.intro hv (And.intro hV (And.intro hni (And.intro hN hEl))))))
  have HM : Hid (∀ W, Below w.heap.size w W → CirAt W b c.inp (.slice sn c.next.length cn) (.slice sg c.gates.length cg) vo) := fun W hb => ⟨(hb.cell (p := ⟨b, 0, none⟩) HB.out).trans H.out.1.h0, (hb.cell (p := ⟨b, 1, none⟩) HB.out).trans H.out.1.h1, (hb.cell (p := ⟨b, 2, none⟩) HB.out).trans H.out.1.h2, (hb.cell (p := ⟨b, 3, none⟩) HB.out).trans H.out.1.h3⟩
  have e1 : ((2 ^ (c.inp.toNat + c.next.length) : Nat) : Int) = (N : Int) := by rw [hN]; rfl
  have E0 := Lib.hid e1
  clear h hg hv hV hni hN e1 f1 f2 f3 eF hEl l2
  go_enter Try.func57, Try.ntmps57
  go_wp2_with (go_at_call 79; ((refine (assignments_any _ _ _ _ _ _ _ _ H.out.1 (by omega) (by omega)).mono ?_); rintro e w2 ⟨rfl, hd⟩; rw [E0.out]; have HD2 := Lib.hid hd; clear hd))
  go_loopw [9, 5] (fun i v5 wr => ∃ (k : Nat) (s : Option Addr) (cc : Nat), k ≤ N ∧ i = .int .i64 k ∧ v5 = .slice s k cc ∧ wr.ownsRow w.heap.size 4 1 v5 k (bools (tabF (litF c l) k)) ∧ Below w.heap.size w wr) (fun i _ _ => N - (intOf i).toNat)
  case atStart => exact ⟨0, _, _, Nat.zero_le _, rfl, rfl, World.ownsRow_nil _ _ _ _, HD2.out.below _⟩
  case round =>
    obtain ⟨k, s5, c5, hk, rfl, rfl, ho, hbl⟩ := hrel
    have hbs := hbl.size
    by_cases hlt : k < N
    · have hkpw : (1 : Int) ≤ 2 ^ ni := by have : (0 : Int) < 2 ^ ni := Int.pow_pos (by decide); omega
      have HR := Lib.hid (And.intro ho (And.intro hbl hkpw))
      clear ho hbl hkpw
      obtain ⟨L, hL⟩ : ∃ L, L = evalV c k (-1) false := ⟨_, rfl⟩
      have hLe : valsV (-1) false (stuckB (-1) false (false :: (bitsV k ni ++ bitsV ((k : Int) / 2 ^ c.inp.toNat) c.next.length))) c.gates = L := by
        rw [hL, show evalV c (k : Int) (-1) false = valsV (-1) false (stuckB (-1) false (asgV c k)) c.gates from rfl]
        unfold asgV
        rw [H.out.2.2.2.2.1, Int.toNat_natCast]
      have HLe := Lib.hid (And.intro hLe hL)
      clear hLe hL
      go_wp2_with (first
        | (go_at_call 82; ((refine (latchBits_any _ _ _ _ _ _ _ _ _ (HM.out _ HR.out.2.1) ⟨by omega, by omega⟩ (by omega) (by omega) (by omega)).mono ?_); rintro e wa ⟨sa, rfl, ha, hqa⟩; have HL1 := Lib.hid (And.intro hqa ha); have hbs1 := hqa.size; clear ha hqa))
        | (go_at_call 83; ((refine (inputBits_any _ _ _ _ _ _ _ (HM.out _ (HR.out.2.1.trans (HL1.out.1.mono hbs))) ni H.out.2.2.2.2.1 (by omega) (by omega) (by omega)).mono ?_); rintro e wb ⟨sb, rfl, hb, hqb⟩; have HL2 := Lib.hid (And.intro (HL1.out.1.trans (hqb.mono hbs1)) (And.intro hb (HL1.out.2.mono hqb))); have hbs2 := hqb.size; clear hb hqb))
        | (go_at_call 76; ((refine (evaluate_any _ _ _ _ _ _ c sa sb _ _ (bitsV ((k : Int) / 2 ^ c.inp.toNat) c.next.length) (bitsV k ni) (-1) false _ (HM.out _ (HR.out.2.1.trans (HL2.out.1.mono hbs))) (H.out.2.1.mono (HR.out.2.1.trans (HL2.out.1.mono hbs))) H.out.2.2.1 HL2.out.2.2 HL2.out.2.1 (bitsV_length _ _) ni (bitsV_length _ _) H.out.2.2.2.2.1 V H.out.2.2.2.1 (by omega) (by omega)).mono ?_); rintro e we ⟨gv, rfl, hgv, hqe⟩; rw [HLe.out.1] at hgv; have HE := Lib.hid (And.intro (HL2.out.1.trans (hqe.mono (by omega))) hgv); have hbs3 := hqe.size; clear hgv hqe))
        | (go_at_call 77; ((with_reducible refine (litValueN_any _ L V V l _ (by rw [HLe.out.2]; exact H.out.2.2.2.2.2.2 _) (Sl.toB HE.out.2) l0 (by omega) lV).mono ?_); rintro e w3 ⟨rfl, rfl⟩))
        | (at_builtin; refine wpl_app rfl _ _ rfl elem_bool (own_below HR.out.1 (HE.out.1.alloc (by omega) _)) rfl rfl rfl (Sl.new _ _ _) (by simp [Value.oneCell']) (k + 1) rfl (bools (tabF (litF c l) (k + 1))) (by rw [tabF_succ, ← bools_append, HLe.out.2]; rfl) (by unfold maxLen; omega) (by omega) (by simp; omega) ?_; intro s6 c6 w6 h6 hb6 _ _; have HA := Lib.hid (And.intro h6 (HR.out.2.1.trans ((HE.out.1.mono hbs).alloc (by omega) _ |>.trans hb6))); clear h6 hb6))
      go_roundw
      case rel => exact ⟨k + 1, s6, c6, by omega, by go_num, rfl, HA.out.1, HA.out.2⟩
      case measure => simp [intOf]; omega
    · obtain rfl : N = k := by omega
      have HR := Lib.hid (And.intro ho hbl)
      clear ho hbl
      go_wp2_with fail
      go_ret
      exact ⟨s5, c5, rfl, HR.out.1, HR.out.2⟩

def entsN : List Nd → Nat → List (Value × Value)
  | [], _ => []
  | x :: xs, i => (x.agg, .int .i64 (i : Int)) :: entsN xs (i + 1)

theorem entsN_app (Ks : List Nd) (x : Nd) : ∀ i, entsN (Ks ++ [x]) i = entsN Ks i ++ [(x.agg, .int .i64 ((i + Ks.length : Nat) : Int))] := by
  induction Ks with
  | nil => intro i; simp [entsN]
  | cons y ys ih =>
    intro i
    show (_ :: entsN (ys ++ [x]) (i + 1)) = _
    rw [ih (i + 1)]
    simp [entsN]
    omega

theorem fk_ents {x : Nd} : ∀ {Ks : List Nd} {es : List MapEntry} {i : Nat} (j : Nat), es.map (fun e => (e.key, e.val)) = entsN Ks i →
    fk (fun v => decide (x = ndOf v)) es j = (fdK Ks x).map fun k => (j + k, Value.int .i64 ((i + k : Nat) : Int))
  | [], [], _, _, _ => rfl
  | [], _ :: _, _, _, h => by simp [entsN] at h
  | _ :: _, [], _, _, h => by simp [entsN] at h
  | y :: ys, e :: es, i, j, h => by
    simp only [List.map_cons, entsN, List.cons.injEq, Prod.mk.injEq] at h
    obtain ⟨⟨h1, h2⟩, h3⟩ := h
    have ih := fk_ents (x := x) (Ks := ys) (es := es) (i := i + 1) (j + 1) h3
    unfold fk fdK
    rw [h1, ndOf_agg]
    by_cases he : x = y
    · rw [if_pos (by simpa using he), if_pos he, h2]; rfl
    · rw [if_neg (by simpa using he), if_neg he, ih]
      cases fdK ys x with
      | none => rfl
      | some k => simp only [Option.map_some, Option.some.injEq, Prod.mk.injEq, Value.int.injEq, true_and]; omega

theorem ents_key {Ks : List Nd} : ∀ {i : Nat} {p : Value × Value}, p ∈ entsN Ks i → ∃ y : Nd, p.1 = y.agg := by
  induction Ks with
  | nil => intro i p h; cases h
  | cons y ys ih =>
    intro i p h
    rcases List.mem_cons.1 h with rfl | h
    · exact ⟨y, rfl⟩
    · exact ih h

/-- Block b is a map that holds exactly the nodes Ks, with the numbers from 2 on. -/
def MapN (w : World) (b : Nat) (Ks : List Nd) : Prop :=
  ∃ es clock, w.heap[b]? = some (.map es clock) ∧ es.toList.map (fun e => (e.key, e.val)) = entsN Ks 2

theorem MapN.key {es : List MapEntry} {Ks : List Nd} (h : es.map (fun e => (e.key, e.val)) = entsN Ks 2) : ∀ e ∈ es, ∃ y : Nd, e.key = y.agg := by
  intro e he
  have : (e.key, e.val) ∈ entsN Ks 2 := by rw [← h]; exact List.mem_map.2 ⟨e, he, rfl⟩
  exact ents_key this

theorem mapn_lookup {w : World} {b : Nat} {Ks : List Nd} (h : MapN w b Ks) (x : Nd) :
    (Instr.lookup 88 (.map (some b)) x.agg true).run Try.prog w = .ok (match fdK Ks x with
      | some i => .tuple #[.int .i64 ((i + 2 : Nat) : Int), .bool true]
      | none => .tuple #[.int .i64 0, .bool false]) w := by
  obtain ⟨es, clock, hb, hm⟩ := h
  obtain ⟨fs, hu, hc⟩ := und_nd
  have hk := MapN.key hm
  have hr := run_lookup_map (P := Try.prog) (w := w) (T := 88) (K := 85) (E := 3) Try.underlying88 hu hb (k := x.agg) (p := fun v => decide (x = ndOf v)) (z := .int .i64 0) (by kernel_rfl) (fun e => hc e x w)
    (fun e he => by obtain ⟨y, h1⟩ := hk e he; rw [h1]; exact equal_nd x y w) true
  rw [hr, fk_ents (x := x) 0 hm]
  cases fdK Ks x with
  | none => rfl
  | some k => simp [Nat.add_comm]

theorem mapn_update {w : World} {b : Nat} {Ks : List Nd} (h : MapN w b Ks) (x : Nd) (hx : fdK Ks x = none) :
    ∃ w', (Instr.mapUpdate 88 (.map (some b)) x.agg (.int .i64 ((Ks.length + 2 : Nat) : Int))).run Try.prog w = .ok () w' ∧ MapN w' b (Ks ++ [x]) ∧ w.grownBy w' (some b) ∧ w'.heap.size = w.heap.size := by
  obtain ⟨es, clock, hb, hm⟩ := h
  obtain ⟨fs, hu, hc⟩ := und_nd
  have hk := MapN.key hm
  have hr := run_update_new (P := Try.prog) (w := w) (T := 88) (K := 85) (E := 3) Try.underlying88 hu hb (k := x.agg) (v := .int .i64 ((Ks.length + 2 : Nat) : Int)) (p := fun v => decide (x = ndOf v)) (fun e => hc e x w)
    (fun e he => by obtain ⟨y, h1⟩ := hk e he; rw [h1]; exact equal_nd x y w) (by rw [fk_ents (x := x) 0 hm, hx]; rfl)
  have hlt := blk_lt hb
  refine ⟨_, hr, ⟨_, _, by simp [hlt]; exact ⟨rfl, rfl⟩, by simp [hm, entsN_app]; omega⟩, ⟨rfl, rfl, rfl, by simp, fun k hk1 hk2 => ?_⟩, by simp⟩
  have : b ≠ k := fun e => hk2 (by rw [e])
  simp [this]

theorem MapN.new (w : World) : MapN (w.alloc (.map #[] 0)) w.heap.size [] := ⟨#[], 0, blk_new _ _, rfl⟩

theorem MapN.below {w w' : World} {b : Nat} {Ks : List Nd} (h : MapN w b Ks) (hb : Below w.heap.size w w') : MapN w' b Ks := by
  obtain ⟨es, clock, h1, h2⟩ := h
  exact ⟨es, clock, blk_below hb (blk_lt h1) h1, h2⟩

theorem MapN.lt {w : World} {b : Nat} {Ks : List Nd} (h : MapN w b Ks) : b < w.heap.size := by
  obtain ⟨es, clock, h1, h2⟩ := h; exact blk_lt h1

/-! The nodes of a diagram, made by the program. -/

theorem elem_node : ElemOf Try.prog 45 85 (.agg #[.int .i64 0, .int .i64 0, .int .i64 0]) 3 24 :=
  ⟨by kernel_rfl, info_parts (by kernel_rfl), rfl, by omega⟩

theorem ncells_append (xs ys : List Nd) : ncells xs ++ ncells ys = ncells (xs ++ ys) := by
  induction xs with
  | nil => rfl
  | cons x xs ih => simp [ncells] at ih ⊢

theorem or_pow7 (x v : Nat) (hv : v ≤ 6) (hx : x < 2 ^ v) : bits .or .i64 (x : Int) (2 ^ v) = ((x + 2 ^ v : Nat) : Int) := by
  have h : ∀ (v : Fin 7) (x : Fin 64), x.val < 2 ^ v.val → bits .or .i64 ((x.val : Nat) : Int) (2 ^ v.val) = ((x.val + 2 ^ v.val : Nat) : Int) := by decide +kernel
  have h64 : 2 ^ v ≤ 2 ^ 6 := Nat.pow_le_pow_right (by omega) hv
  exact h ⟨v, by omega⟩ ⟨x, by omega⟩ hx

theorem mapn_nocell {w : World} {b : Nat} {Ks : List Nd} (h : MapN w b Ks) {cs : Array Value} {t : TypeId} {fz : Nat × Nat} : w.heap[b]? ≠ some (.cells cs t fz) := by
  obtain ⟨es, clock, h1, _⟩ := h
  rw [h1]; intro e; cases e

theorem own_nomapn {w : World} {base : Nat} {e : TypeId} {size : Nat} {v : Value} {n : Nat} {xs : List Value} (h : w.ownsRow base e size v n xs) {b : Nat} {Ks : List Nd} (hm : MapN w b Ks) : v.ownBlock ≠ some b := by
  intro hb
  rcases h.2 with ⟨rfl, _⟩ | ⟨g, cap, cur, rfl, _, hg, _⟩
  · cases hb
  · cases hb; exact mapn_nocell hm hg

/-- The maker in block b of world W: the nodes Ks. -/
structure BM (W0 : World) (b mb : Nat) (st : Option Addr) (ct : Nat) (tb : List Bool) (n : Nat) (W : World) (Ks : List Nd) (vn : Value) : Prop where
  blk : W.heap[b]? = some (.cells #[.slice st tb.length ct, .int .i64 n, vn, .map (some mb)] 90 (0, 0))
  own : W.ownsRow W0.heap.size 85 3 vn (Ks.length + 2) (ncells (zz Ks))
  map : MapN W mb Ks
  tab : W.ownsRow W0.heap.size 4 1 (.slice st tb.length ct) tb.length (bools tb)
  bl : Below W0.heap.size W0 W
  hb : W0.heap.size ≤ b
  hm : W0.heap.size ≤ mb

theorem BM.below {W0 W W' : World} {b mb : Nat} {st : Option Addr} {ct : Nat} {tb : List Bool} {n : Nat} {Ks : List Nd} {vn : Value} (h : BM W0 b mb st ct tb n W Ks vn) (hq : Below W.heap.size W W') : BM W0 b mb st ct tb n W' Ks vn :=
  ⟨blk_below hq (blk_lt h.blk) h.blk, own_below h.own hq, h.map.below hq, own_below h.tab hq, h.bl.trans (hq.mono h.bl.size), h.hb, h.hm⟩

theorem BM.shape {W0 W : World} {b mb : Nat} {st : Option Addr} {ct : Nat} {tb : List Bool} {n : Nat} {Ks : List Nd} {vn : Value} (h : BM W0 b mb st ct tb n W Ks vn) : ∃ s c, vn = .slice s (Ks.length + 2) c := own_shape h.own

theorem BM.ne {W0 W : World} {b mb : Nat} {st : Option Addr} {ct : Nat} {tb : List Bool} {n : Nat} {Ks : List Nd} {vn : Value} (h : BM W0 b mb st ct tb n W Ks vn) : b ≠ mb := by
  intro e; subst e; exact mapn_nocell h.map h.blk

/-- A new node is put into the map. -/
theorem BM.put {W0 W W' : World} {b mb : Nat} {st : Option Addr} {ct : Nat} {tb : List Bool} {n : Nat} {Ks : List Nd} {vn : Value} (h : BM W0 b mb st ct tb n W Ks vn) (hg : W.grownBy W' (some mb)) :
    W'.heap[b]? = some (.cells #[.slice st tb.length ct, .int .i64 n, vn, .map (some mb)] 90 (0, 0)) ∧ W'.ownsRow W0.heap.size 85 3 vn (Ks.length + 2) (ncells (zz Ks)) ∧ W'.ownsRow W0.heap.size 4 1 (.slice st tb.length ct) tb.length (bools tb) ∧ Below W0.heap.size W0 W' := by
  have hc := Chg.of_grown hg
  have hlt := h.map.lt
  refine ⟨by rw [hg.block b (blk_lt h.blk) (fun e => h.ne (by cases e; rfl))]; exact h.blk, hc.own h.own (fun k hk hs => own_nomapn h.own h.map (by rw [hk]; exact hs.symm)), hc.own h.tab (fun k hk hs => own_nomapn h.tab h.map (by rw [hk]; exact hs.symm)), h.bl.trans (hc.below h.bl.size (fun k hk hs => ?_))⟩
  cases hs; have := h.hm; omega

theorem own_ne_ty {w : World} {base : Nat} {e t : TypeId} {size : Nat} {v : Value} {n : Nat} {xs : List Value} (h : w.ownsRow base e size v n xs) {b : Nat} {cs : Array Value} {fz : Nat × Nat} (hb : w.heap[b]? = some (.cells cs t fz)) (he : e ≠ t) : v.ownBlock ≠ some b := by
  intro hk
  rcases h.2 with ⟨rfl, _⟩ | ⟨g, cap, cur, rfl, _, hg, _⟩
  · cases hk
  · cases hk
    rw [hg] at hb
    simp only [Option.some.injEq, Obj.cells.injEq] at hb
    exact he hb.2.1

/-- A node is appended, and the row stored. -/
theorem BM.grow {W0 W W2 : World} {b mb : Nat} {st : Option Addr} {ct : Nat} {tb : List Bool} {n : Nat} {vn v6 : Value} {Kx K' : List Nd} (hblk : W.heap[b]? = some (.cells #[.slice st tb.length ct, .int .i64 n, vn, .map (some mb)] 90 (0, 0))) (hown : W.ownsRow W0.heap.size 85 3 vn (Kx.length + 2) (ncells (zz Kx)))
    (htab : W.ownsRow W0.heap.size 4 1 (.slice st tb.length ct) tb.length (bools tb)) (hmap : MapN W mb K') (hbl : Below W0.heap.size W0 W) (hb : W0.heap.size ≤ b) (hm : W0.heap.size ≤ mb)
    (h6 : W2.ownsRow W0.heap.size 85 3 v6 (K'.length + 2) (ncells (zz K'))) (hg : W.grownBy W2 vn.ownBlock) (hob : v6.ownBlock = vn.ownBlock ∨ v6.ownBlock = some W.heap.size) :
    W2.heap[b]? = some (.cells #[.slice st tb.length ct, .int .i64 n, vn, .map (some mb)] 90 (0, 0)) ∧ BM W0 b mb st ct tb n (W2.setCell ⟨b, 2, none⟩ v6) K' v6 := by
  have hc := Chg.of_grown hg
  have n1 := own_ne_ty hown hblk (by decide)
  have n2 := own_nomapn hown hmap
  have n3 : v6.ownBlock ≠ some b := by
    rcases hob with e | e
    · rw [e]; exact n1
    · rw [e]; have := blk_lt hblk; simp; omega
  have n4 : (Value.slice st tb.length ct).ownBlock ≠ some b := own_ne_ty htab hblk (by decide)
  have hbm : b ≠ mb := by intro e; subst e; exact mapn_nocell hmap hblk
  have hb2 := hc.blk hblk n1
  obtain ⟨es, clock, m1, m2⟩ := hmap
  have hm2 := hc.blk m1 n2
  have hbl2 : Below W0.heap.size W0 W2 := hbl.trans (hc.below hbl.size (fun k hk hs => by have := (own_blk hown hs).1; omega))
  refine ⟨hb2, ⟨by simpa using blk_set (o := 2) (v := v6) hb2, own_set_ne h6 n3 _, ⟨es, clock, blk_set_ne hbm hm2, m2⟩, own_set_ne (hc.own htab (fun k hk hs => own_ty htab hown (by decide) hk hs)) n4 _, hbl2.setCell (p := ⟨b, 2, none⟩) hb _, hb, hm⟩⟩

def BmPost (W0 : World) (b mb : Nat) (st : Option Addr) (ct : Nat) (tb : List Bool) (n : Nat) (r : List Nd × Int) (e : Ending) (w' : World) : Prop :=
  ∃ vn, e = .returned (.int .i64 r.2) ∧ BM W0 b mb st ct tb n w' r.1 vn

set_option maxRecDepth 100000 in
set_option maxHeartbeats 3200000 in
theorem build_any (W0 : World) (b mb : Nat) (st : Option Addr) (ct : Nat) (tb : List Bool) (n : Nat) (hn7 : n ≤ 7) (htb : tb.length = 2 ^ n) : ∀ (d v x : Nat) (Ks : List Nd) (vn : Value) (w : World), BM W0 b mb st ct tb n w Ks vn → v + d = n → x < 2 ^ v → Ks.length + 2 ^ d ≤ 1000 →
    Calls Try.prog 58 #[.pointer (some ⟨b, 0, none⟩), .int .i64 (v : Int), .int .i64 (x : Int)] w (BmPost W0 b mb st ct tb n (bldK (fun j => tb.getD j false) d v x Ks)) := by
  intro d
  induction d with
  | zero =>
    intro v x Ks vn w h hv hx hl
    obtain rfl : v = n := by omega
    have H := Lib.hid h
    have cb := (blk_all h.blk).1
    obtain ⟨y, hy⟩ := get_of_lt (l := tb) (k := x) (by rw [htb]; exact hx)
    obtain ⟨tk, tof, rfl, -, zt⟩ := (own_sl h.tab).bool (Below.refl _ _) hy
    have htl : x < tb.length := (List.getElem?_eq_some_iff.1 hy).1
    have hy2 : Hid (tb.getD x false = y) := by show _ = _; rw [List.getD_eq_getElem?_getD, hy]; rfl
    clear h hy hx hl htb hv
    go_enter Try.func58, Try.ntmps58
    cases y
    · go_wp2
      go_ret
      exact ⟨vn, by unfold bldK; dsimp only; rw [hy2.out]; rfl, H.out⟩
    · go_wp2
      go_ret
      exact ⟨vn, by unfold bldK; dsimp only; rw [hy2.out]; rfl, H.out⟩
  | succ d ih =>
    intro v x Ks vn w h hv hx hl
    have H := Lib.hid h
    have hvn : v < n := by omega
    have hs : 2 ^ (d + 1) = 2 ^ d + 2 ^ d := by rw [Nat.pow_succ]; omega
    have hor := or_pow7 x v (by omega) hx
    have hwp : wrap64 (2 ^ v) = 2 ^ v := wrap_pow (by omega)
    have hx1 : x < 2 ^ (v + 1) := by rw [Nat.pow_succ]; omega
    have hx2 : x + 2 ^ v < 2 ^ (v + 1) := by rw [Nat.pow_succ]; omega
    have hl1 := bldK_len (fun j => tb.getD j false) d (v + 1) x Ks
    have hl2 := bldK_len (fun j => tb.getD j false) d (v + 1) (x + 2 ^ v) (bldK (fun j => tb.getD j false) d (v + 1) x Ks).1
    have i1 := bldK_id (fun j => tb.getD j false) d (v + 1) x Ks
    have i2 := bldK_id (fun j => tb.getD j false) d (v + 1) (x + 2 ^ v) (bldK (fun j => tb.getD j false) d (v + 1) x Ks).1
    have he : bldK (fun j => tb.getD j false) (d + 1) v x Ks = mkK (bldK (fun j => tb.getD j false) d (v + 1) (x + 2 ^ v) (bldK (fun j => tb.getD j false) d (v + 1) x Ks).1).1 v (bldK (fun j => tb.getD j false) d (v + 1) x Ks).2 (bldK (fun j => tb.getD j false) d (v + 1) (x + 2 ^ v) (bldK (fun j => tb.getD j false) d (v + 1) x Ks).1).2 := rfl
    have ih1 := fun w h => ih (v + 1) x Ks vn w h (by omega) hx1 (by omega)
    have ih2 := fun vn w h => ih (v + 1) (x + 2 ^ v) (bldK (fun j => tb.getD j false) d (v + 1) x Ks).1 vn w h (by omega) hx2 (by omega)
    obtain ⟨r1, hr1⟩ : ∃ r, r = bldK (fun j => tb.getD j false) d (v + 1) x Ks := ⟨_, rfl⟩
    rw [← hr1] at hl1 hl2 i1 i2 he ih1 ih2
    obtain ⟨r2, hr2⟩ : ∃ r, r = bldK (fun j => tb.getD j false) d (v + 1) (x + 2 ^ v) r1.1 := ⟨_, rfl⟩
    rw [← hr2] at hl2 i2 he ih2
    rw [he]
    obtain ⟨K1, lo⟩ := r1
    obtain ⟨K2, hi⟩ := r2
    simp only at hl1 hl2 i1 i2 ih1 ih2 ⊢
    have ev : (((v + 1 : Nat)) : Int) = (v : Int) + 1 := by omega
    rw [ev] at ih1 ih2
    have ev2 : (((x + 2 ^ v : Nat)) : Int) = (x : Int) + 2 ^ v := by simp
    rw [ev2] at hor ih2
    have K1l : K1.length ≤ 1000 := by omega
    have K2l : K2.length ≤ 1000 := by omega
    obtain ⟨lo0, lo1⟩ := i1
    obtain ⟨hi0, hi1⟩ := i2
    have lo2 : lo ≤ 2000 := by omega
    have hi2 : hi ≤ 2000 := by omega
    have HI1 := Lib.hid ih1
    have HI2 := Lib.hid ih2
    have cb := (blk_all h.blk).1
    clear h ih ih1 ih2 he hr1 hr2 hl1 hl2 lo1 hi1 hx1 hx2 hl htb ev ev2 hs hv hx
    go_enter Try.func58, Try.ntmps58
    go_upto_region 6 with (go_at_call 58; ((with_reducible refine (HI1.out _ H.out).mono ?_); rintro e w1 ⟨vn1, rfl, h1⟩; have H1 := Lib.hid h1; clear h1 cb))
    go_upto_region 7 with (go_at_call 58; ((with_reducible refine (HI2.out _ _ H1.out).mono ?_); rintro e w2 ⟨vn2, rfl, h2⟩; have H2 := Lib.hid h2; clear h2))
    clear H1
    by_cases hlh : lo = hi
    · subst hlh
      go_wp2_with fail
      go_ret
      exact ⟨vn2, by rw [mkK_eq rfl]; rfl, by rw [mkK_eq rfl]; exact H2.out⟩
    · obtain ⟨s2, c2, rfl⟩ := H2.out.shape
      have hne : (lo == hi) = false := beq_eq_false_iff_ne.2 hlh
      go_upto_region 10 with fail
      obtain ⟨p, hp⟩ : ∃ p, p = w2.heap.size := ⟨_, rfl⟩
      have hk := blk_new w2 (.cells #[.int .i64 (v : Int), .int .i64 lo, .int .i64 hi] 85)
      have h3 := H2.out.below ((Below.refl w2.heap.size w2).alloc (Nat.le_refl _) (.cells #[.int .i64 (v : Int), .int .i64 lo, .int .i64 hi] 85))
      have hbp : b < p := by rw [hp]; exact blk_lt H2.out.blk
      have hmp : mb < p := by rw [hp]; exact H2.out.map.lt
      have HVP : Hid (∀ k, (Value.slice s2 (K2.length + 2) c2).ownBlock = some k → k < p) := fun k hk => by rw [hp]; exact (own_blk H2.out.own hk).2
      rw [← hp] at hk
      rw [← hp]
      clear hp H2
      revert hk h3
      generalize w2.alloc (.cells #[.int .i64 (v : Int), .int .i64 lo, .int .i64 hi] 85) = W3
      intro hk h3
      have H3 := Lib.hid (And.intro h3 hk)
      clear h3 hk
      have hd3 : Below W3.heap.size W3 W3.drew := (Below.refl _ _).drew
      have H5 := Lib.hid (And.intro (H3.out.1.below hd3) (blk_below hd3 (blk_lt H3.out.2) H3.out.2))
      clear H3 hd3
      refine wp_region_T (fun w' => (∀ o, w'.cell? ⟨b, o, none⟩ = #[Value.slice st tb.length ct, .int .i64 n, .slice s2 (K2.length + 2) c2, .map (some mb)][o]?) ∧ (∀ o, w'.cell? ⟨p, o, none⟩ = #[Value.int .i64 (v : Int), .int .i64 lo, .int .i64 hi][o]?)) (.q 0 (.q 1 (.q 2 (.q 3 (.q 4 (.e 5 (.q 6 (.q 7 (.q 8 (.q 9 (.q 10 .nil))))))))))) (by kernel_rfl) (by kernel_rfl) (by kernel_rfl) ⟨(blk_all H5.out.1.blk).1, (blk_all H5.out.2).1⟩ ?_
      generalize W3.drew = W5 at H5 ⊢
      have hlk := mapn_lookup H5.out.1.map ⟨(v : Int), lo, hi⟩
      unfold Nd.agg at hlk
      dsimp only at hlk
      cases hf : fdK K2 ⟨(v : Int), lo, hi⟩ with
      | some i =>
        have HF := Lib.hid hf
        have hil := fdK_lt hf
        rw [hf] at hlk
        dsimp only at hlk
        clear hf
        repeat (first | (refine ordt_s (o := ?_) ?_ ?_ ?_; rotate_left 1; (focus ((simp only [zD, zE, zF]) <;> rfl)); (focus rfl); simp only [Act.put, zA, zB, zC]) | (refine ordt_q (o := ?_) (v := ?_) ?_ ?_ ?_ ?_; rotate_left 2; (focus ((simp only [zD, zE, zF]) <;> rfl)); (focus rfl); (focus (intro w' hS; (try dsimp only at hS); go_split_ands; go_simp; (try (with_reducible rfl)))); simp only [Act.put, zA, zB, zC]))
        refine ordt_e ?_
        (refine op_e (o := ?_) ?_ ?_ (fun K hK => ?_); rotate_left 1; (focus ((simp only [zD, zE, zF]) <;> rfl)); (focus rfl); go_simp)
        refine hK.out _ _ ⟨(blk_all H5.out.1.blk).1, (blk_all H5.out.2).1⟩ ?_
        clear hK K
        (try simp only [Act.put, zA, zB, zC])
        repeat (first | (refine ordt_s (o := ?_) ?_ ?_ ?_; rotate_left 1; (focus ((simp only [zD, zE, zF]) <;> rfl)); (focus rfl); simp only [Act.put, zA, zB, zC]) | (refine ordt_q (o := ?_) (v := ?_) ?_ ?_ ?_ ?_; rotate_left 2; (focus ((simp only [zD, zE, zF]) <;> rfl)); (focus rfl); (focus (intro w' hS; (try dsimp only at hS); go_split_ands; go_simp; (try (with_reducible rfl)))); simp only [Act.put, zA, zB, zC]))
        refine ordt_nil ?_
        go_wp2_with fail
        go_ret
        exact ⟨_, by rw [mkK_old hlh HF.out]; rfl, by rw [mkK_old hlh HF.out]; exact H5.out.1⟩
      | none =>
        have HF := Lib.hid hf
        rw [hf] at hlk
        dsimp only at hlk
        clear hf
        repeat (first | (refine ordt_s (o := ?_) ?_ ?_ ?_; rotate_left 1; (focus ((simp only [zD, zE, zF]) <;> rfl)); (focus rfl); simp only [Act.put, zA, zB, zC]) | (refine ordt_q (o := ?_) (v := ?_) ?_ ?_ ?_ ?_; rotate_left 2; (focus ((simp only [zD, zE, zF]) <;> rfl)); (focus rfl); (focus (intro w' hS; (try dsimp only at hS); go_split_ands; go_simp; (try (with_reducible rfl)))); simp only [Act.put, zA, zB, zC]))
        refine ordt_e ?_
        (refine op_e (o := ?_) ?_ ?_ (fun K hK => ?_); rotate_left 1; (focus ((simp only [zD, zE, zF]) <;> rfl)); (focus rfl); go_simp)
        refine hK.out _ _ ⟨(blk_all H5.out.1.blk).1, (blk_all H5.out.2).1⟩ ?_
        clear hK K
        (try simp only [Act.put, zA, zB, zC])
        repeat (first | (refine ordt_s (o := ?_) ?_ ?_ ?_; rotate_left 1; (focus ((simp only [zD, zE, zF]) <;> rfl)); (focus rfl); simp only [Act.put, zA, zB, zC]) | (refine ordt_q (o := ?_) (v := ?_) ?_ ?_ ?_ ?_; rotate_left 2; (focus ((simp only [zD, zE, zF]) <;> rfl)); (focus rfl); (focus (intro w' hS; (try dsimp only at hS); go_split_ands; go_simp; (try (with_reducible rfl)))); simp only [Act.put, zA, zB, zC]))
        refine ordt_nil ?_
        have cb := (blk_all H5.out.1.blk).1
        go_upto_region 13 with fail
        clear cb
        have hd3 : Below W5.heap.size W5 W5.drew := (Below.refl _ _).drew
        have H6 := Lib.hid (And.intro (H5.out.1.below hd3) (blk_below hd3 (blk_lt H5.out.2) H5.out.2))
        clear H5 hd3
        refine wp_region_T (fun w' => (∀ o, w'.cell? ⟨b, o, none⟩ = #[Value.slice st tb.length ct, .int .i64 n, .slice s2 (K2.length + 2) c2, .map (some mb)][o]?) ∧ (∀ o, w'.cell? ⟨p, o, none⟩ = #[Value.int .i64 (v : Int), .int .i64 lo, .int .i64 hi][o]?)) (.q 0 (.q 1 (.q 2 (.q 3 (.q 4 (.q 5 (.e 6 .nil))))))) (by kernel_rfl) (by kernel_rfl) (by kernel_rfl) ⟨(blk_all H6.out.1.blk).1, (blk_all H6.out.2).1⟩ ?_
        generalize W5.drew = W6 at H6 ⊢
        obtain ⟨W7, hrun, hmap, hgr, hsz⟩ := mapn_update H6.out.1.map ⟨(v : Int), lo, hi⟩ HF.out
        unfold Nd.agg at hrun
        dsimp only at hrun
        rw [show (((K2.length + 2 : Nat)) : Int) = (K2.length : Int) + 2 from by omega] at hrun
        obtain ⟨g1, g2, g3, g4⟩ := H6.out.1.put hgr
        have gp : W7.heap[p]? = some (.cells #[.int .i64 (v : Int), .int .i64 lo, .int .i64 hi] 85 (0, 0)) := by
          rw [hgr.block p (blk_lt H6.out.2) (by simp; omega)]; exact H6.out.2
        have H7 := Lib.hid (And.intro g1 (And.intro g2 (And.intro g3 (And.intro g4 (And.intro gp hmap)))))
        have hB := H6.out.1.hb
        have hM := H6.out.1.hm
        clear g1 g2 g3 g4 gp hmap hgr hsz H6
        repeat (first | (refine ordt_s (o := ?_) ?_ ?_ ?_; rotate_left 1; (focus ((simp only [zD, zE, zF]) <;> rfl)); (focus rfl); simp only [Act.put, zA, zB, zC]) | (refine ordt_q (o := ?_) (v := ?_) ?_ ?_ ?_ ?_; rotate_left 2; (focus ((simp only [zD, zE, zF]) <;> rfl)); (focus rfl); (focus (intro w' hS; (try dsimp only at hS); go_split_ands; go_simp; (try (with_reducible rfl)))); simp only [Act.put, zA, zB, zC]))
        refine ordt_e ?_
        (refine op_e (o := ?_) ?_ ?_ (fun K hK => ?_); rotate_left 1; (focus ((simp only [zD, zE, zF]) <;> rfl)); (focus rfl); go_simp)
        refine hK.out _ _ ⟨(blk_all H7.out.1).1, (blk_all H7.out.2.2.2.2.1).1⟩ ?_
        clear hK K hrun hlk
        (try simp only [Act.put, zA, zB, zC])
        repeat (first | (refine ordt_s (o := ?_) ?_ ?_ ?_; rotate_left 1; (focus ((simp only [zD, zE, zF]) <;> rfl)); (focus rfl); simp only [Act.put, zA, zB, zC]) | (refine ordt_q (o := ?_) (v := ?_) ?_ ?_ ?_ ?_; rotate_left 2; (focus ((simp only [zD, zE, zF]) <;> rfl)); (focus rfl); (focus (intro w' hS; (try dsimp only at hS); go_split_ands; go_simp; (try (with_reducible rfl)))); simp only [Act.put, zA, zB, zC]))
        refine ordt_nil ?_
        go_upto_region 14 with fail
        have hd3 : Below W7.heap.size W7 W7.drew := (Below.refl _ _).drew
        have hb7 := H7.out.2.2.2.1.size
        have H8 : Hid (W7.drew.heap = W7.heap ∧ W0.heap.size ≤ W7.drew.heap.size ∧ Below W0.heap.size W0 W7.drew ∧ MapN W7.drew mb (K2 ++ [⟨(v : Int), lo, hi⟩]) ∧ W7.drew.ownsRow W0.heap.size 4 1 (.slice st tb.length ct) tb.length (bools tb) ∧ W7.drew.ownsRow W0.heap.size 85 3 (.slice s2 (K2.length + 2) c2) (K2.length + 2) (ncells (zz K2)) ∧ W7.drew.heap[b]? = some (.cells #[.slice st tb.length ct, .int .i64 n, .slice s2 (K2.length + 2) c2, .map (some mb)] 90 (0, 0)) ∧ W7.drew.heap[p]? = some (.cells #[.int .i64 (v : Int), .int .i64 lo, .int .i64 hi] 85 (0, 0))) :=
          ⟨rfl, hb7, H7.out.2.2.2.1.drew, H7.out.2.2.2.2.2.below hd3, own_below H7.out.2.2.1 hd3, own_below H7.out.2.1 hd3, blk_below hd3 (blk_lt H7.out.1) H7.out.1, blk_below hd3 (blk_lt H7.out.2.2.2.2.1) H7.out.2.2.2.2.1⟩
        clear hd3 H7
        refine wp_region_E (fun w' => (∀ o, w'.cell? ⟨b, o, none⟩ = #[Value.slice st tb.length ct, .int .i64 n, .slice s2 (K2.length + 2) c2, .map (some mb)][o]?) ∧ (∀ o, w'.cell? ⟨p, o, none⟩ = #[Value.int .i64 (v : Int), .int .i64 lo, .int .i64 hi][o]?)) 10 (.q 0 (.q 1 (.q 2 (.q 3 (.q 4 (.q 5 (.e 6 (.e 7 (.q 8 (.q 9 (.z 10))))))))))) (by kernel_rfl) (by kernel_rfl) (by kernel_rfl) (by kernel_rfl) (by kernel_rfl) (by kernel_rfl) ⟨(blk_all H8.out.2.2.2.2.2.2.1).1, (blk_all H8.out.2.2.2.2.2.2.2).1⟩ ?_
        generalize W7.drew = W8 at H8 ⊢
        repeat (first | (refine orde_s (o := ?_) ?_ ?_ ?_; rotate_left 1; (focus ((simp only [zD, zE, zF]) <;> rfl)); (focus rfl); simp only [Act.put, zA, zB, zC]) | (refine orde_q (o := ?_) (v := ?_) ?_ ?_ ?_ ?_; rotate_left 2; (focus ((simp only [zD, zE, zF]) <;> rfl)); (focus rfl); (focus (intro w' hS; (try dsimp only at hS); go_split_ands; go_simp; (try (with_reducible rfl)))); simp only [Act.put, zA, zB, zC]))
        refine orde_e ?_
        (refine ope_e (o := ?_) ?_ ?_ (fun K hK => ?_); rotate_left 1; (focus ((simp only [zD, zE, zF]) <;> rfl)); (focus rfl); go_simp)
        have hba := (Below.refl W8.heap.size W8).alloc (Nat.le_refl _) (.cells #[.int .i64 (v : Int), .int .i64 lo, .int .i64 hi] 85)
        have hs := Sl.new W8 #[.int .i64 (v : Int), .int .i64 lo, .int .i64 hi] 85
        have hsz := hba.size
        have H9 := Lib.hid (And.intro hs (And.intro (H8.out.2.2.1.trans (hba.mono H8.out.2.1)) (And.intro (H8.out.2.2.2.1.below hba) (And.intro (own_below H8.out.2.2.2.2.1 hba) (And.intro (own_below H8.out.2.2.2.2.2.1 hba) (And.intro (blk_below hba (blk_lt H8.out.2.2.2.2.2.2.1) H8.out.2.2.2.2.2.2.1) (blk_below hba (blk_lt H8.out.2.2.2.2.2.2.2) H8.out.2.2.2.2.2.2.2)))))))
        clear hba hs hsz H8
        revert H9
        generalize W8.alloc (.cells #[.int .i64 (v : Int), .int .i64 lo, .int .i64 hi] 85) = W9
        intro H9
        refine hK.out _ _ ⟨(blk_all H9.out.2.2.2.2.2.1).1, (blk_all H9.out.2.2.2.2.2.2).1⟩ ?_
        clear hK K
        (try simp only [Act.put, zA, zB, zC])
        refine orde_e ?_
        (refine ope_e (o := ?_) ?_ ?_ (fun K hK => ?_); rotate_left 1; (focus ((simp only [zD, zE, zF]) <;> rfl)); (focus rfl))
        refine wp_app (.tmp 72) (.tmp 74) rfl elem_node H9.out.2.2.2.2.1 rfl rfl (by simp) H9.out.1 (by simp [Value.oneCell']) (K2.length + 2 + 1) rfl (ncells (zz (K2 ++ [⟨(v : Int), lo, hi⟩]))) (by rw [zz_app, ← ncells_append]; rfl) (by unfold maxLen; omega) (by omega) H9.out.2.1.size ?_
        intro s6 c6 W2' h6 hb6 hg6 hob6
        obtain ⟨g1, g2⟩ := BM.grow (K' := K2 ++ [⟨(v : Int), lo, hi⟩]) (v6 := .slice s6 (K2.length + 2 + 1) c6) H9.out.2.2.2.2.2.1 H9.out.2.2.2.2.1 H9.out.2.2.2.1 H9.out.2.2.1 H9.out.2.1 hB hM (by simpa [Nat.add_right_comm] using h6) hg6 hob6
        have hp2 : W2'.heap[p]? = some (.cells #[.int .i64 (v : Int), .int .i64 lo, .int .i64 hi] 85 (0, 0)) := by
          rw [hg6.block p (blk_lt H9.out.2.2.2.2.2.2) (fun e => by have := HVP.out _ e.symm; omega)]; exact H9.out.2.2.2.2.2.2
        refine hK.out _ _ ⟨(blk_all g1).1, (blk_all hp2).1⟩ ?_
        clear hK K
        have y1 : W2'.cell? ⟨b, 2, none⟩ = some (.slice s2 (K2.length + 2) c2) := blk_cell g1
        have y2 : W2'.frozen? ⟨b, 2, none⟩ = false := blk_free g1
        have HZ := Lib.hid g2
        clear g1 g2 hp2 h6 hb6 hg6 hob6
        (try simp only [Act.put, zA, zB, zC])
        repeat (first | (refine orde_s (o := ?_) ?_ ?_ ?_; rotate_left 1; (focus ((simp only [zD, zE, zF]) <;> rfl)); (focus rfl); simp only [Act.put, zA, zB, zC]) | (refine orde_q (o := ?_) (v := ?_) ?_ ?_ ?_ ?_; rotate_left 2; (focus ((simp only [zD, zE, zF]) <;> rfl)); (focus rfl); (focus (intro w' hS; (try dsimp only at hS); go_split_ands; go_simp; (try (with_reducible rfl)))); simp only [Act.put, zA, zB, zC]))
        (refine orde_z (o := ?_) ?_ ?_ (fun K hK => ?_); rotate_left 1; (focus ((simp only [zD, zE, zF]) <;> rfl)); (focus rfl); go_simp)
        refine hK.out _ _ ?_
        clear hK K y1 y2
        go_wp2_with fail
        go_ret
        exact ⟨_, by rw [mkK_new hlh HF.out]; exact ret_int (by simp), by rw [mkK_new hlh HF.out]; exact HZ.out⟩

end Go.Proofs.Ytaboipnigeaopaa
