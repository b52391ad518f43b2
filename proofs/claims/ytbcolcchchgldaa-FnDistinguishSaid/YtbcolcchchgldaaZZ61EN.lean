import Derived.Test.YtbcolcchchgldaaZZ61V3
import Derived.Test.YtbcolcchchgldaaZZ61OA
import Derived.Test.YtbcolcchchgldaaZZ61DA
import Derived.Test.YtbcolcchchgldaaZZ61L4
import Derived.Test.YtbcolcchchgldaaZZ61Y0
import Derived.Test.YtbcolcchchgldaaZZ61V2
import Derived.Deep.DeepCutAuto
import Derived.Deep.RegionHeld3
namespace Go.Proofs.Ytbcolcchchgldaa
set_option linter.unusedVariables false
set_option linter.unusedSimpArgs false
open Go.RowKit

/-! Part of the proof of one law. -/

/-- The values of all variables, none stuck. -/
def vN (b : List Bool) (gs : List Gt) : List Bool := valsV (-1) false b gs

theorem bitsV_cons (x : Int) (n : Nat) : bitsV x (n + 1) = decide (x % 2 = 1) :: bitsV (x / 2) n := by
  unfold bitsV
  rw [List.range_succ_eq_map, List.map_cons, List.map_map]
  congr 1
  · simp
  · apply List.map_congr_left
    intro i _
    show decide (x / 2 ^ (i + 1) % 2 = 1) = decide (x / 2 / 2 ^ i % 2 = 1)
    rw [Int.pow_succ, Int.mul_comm, Int.ediv_ediv, if_neg (by omega), Int.sub_zero]

theorem bitsV_numB : ∀ (bs : List Bool), bitsV (numB bs) bs.length = bs
  | [] => rfl
  | b :: bs => by
    rw [List.length_cons, bitsV_cons]
    have e1 : numB (b :: bs) / 2 = numB bs := by
      show ((if b then 1 else 0) + 2 * numB bs) / 2 = numB bs
      cases b <;> simp <;> omega
    have e2 : decide (numB (b :: bs) % 2 = 1) = b := by
      show decide (((if b then 1 else 0) + 2 * numB bs) % 2 = 1) = b
      cases b <;> simp <;> omega
    rw [e1, e2, bitsV_numB bs]

theorem numB_inj {xs bs : List Bool} (h : xs.length = bs.length) (e : numB xs = numB bs) : xs = bs := by
  rw [← bitsV_numB xs, ← bitsV_numB bs, e, h]

theorem bitsV_zero (n : Nat) : bitsV 0 n = List.replicate n false := by
  unfold bitsV
  apply List.ext_getElem
  · simp
  · intro i h1 h2
    simp

theorem outN_eq {a b : Cir} (h : a.outs.length = b.outs.length) {s x t y : Int} : outN a s x = outN b t y ↔ a.outs.map (litB (cycV a s x)) = b.outs.map (litB (cycV b t y)) := by
  unfold outN
  exact ⟨fun e => numB_inj (by simpa using h) e, fun e => by rw [e]⟩

theorem hitD_iff {a b : Cir} (h : a.outs.length = b.outs.length) (s : Int × Int) (x : Int) : hitD a b s x = false ↔ a.outs.map (litB (cycV a s.1 x)) = b.outs.map (litB (cycV b s.2 x)) := by
  unfold hitD
  rw [← outN_eq h]; simp

theorem nextN_bits (c : Cir) (s x : Int) : bitsV (nextN c s x) c.next.length = c.next.map (litB (cycV c s x)) := by
  have := bitsV_numB (c.next.map (litB (cycV c s x)))
  rw [List.length_map] at this
  exact this

def runN (c : Cir) (s : Int) (xs : List Int) : Int := xs.foldl (nextN c) s

theorem runD_eq (a b : Cir) : ∀ (xs : List Int) (s : Int × Int), runD a b s xs = (runN a s.1 xs, runN b s.2 xs)
  | [], _ => rfl
  | x :: xs, s => runD_eq a b xs (stpD a b s x)

def outsV (c : Cir) (s x : Int) : List Bool := c.outs.map (litB (cycV c s x))

/-- The outputs of a simulation from a state. -/
def simS (c : Cir) : Int → List Int → List (List Bool)
  | _, [] => []
  | s, x :: xs => outsV c s x :: simS c (nextN c s x) xs

theorem simS_length (c : Cir) : ∀ (xs : List Int) (s : Int), (simS c s xs).length = xs.length
  | [], _ => rfl
  | x :: xs, s => by show (simS c (nextN c s x) xs).length + 1 = _; rw [simS_length c xs]; rfl

theorem simS_snoc (c : Cir) : ∀ (xs : List Int) (s x : Int), simS c s (xs ++ [x]) = simS c s xs ++ [outsV c (runN c s xs) x]
  | [], _, _ => rfl
  | y :: xs, s, x => by
    show outsV c s y :: simS c (nextN c s y) (xs ++ [x]) = outsV c s y :: (simS c (nextN c s y) xs ++ [outsV c (runN c (nextN c s y) xs) x])
    rw [simS_snoc c xs]

theorem simS_eq {a b : Cir} (ho : a.outs.length = b.outs.length) {s t : Int} : ∀ (xs : List Int), (∀ (i : Nat) (x : Int), xs[i]? = some x → hitD a b (runD a b (s, t) (xs.take i)) x = false) → simS a s xs = simS b t xs := by
  intro xs
  induction xs generalizing s t with
  | nil => intro _; rfl
  | cons x xs ih =>
    intro h
    show outsV a s x :: simS a (nextN a s x) xs = outsV b t x :: simS b (nextN b t x) xs
    have h0 := h 0 x rfl
    rw [show runD a b (s, t) ((x :: xs).take 0) = (s, t) from rfl, hitD_iff ho] at h0
    have e0 : outsV a s x = outsV b t x := h0
    rw [e0, ih (s := nextN a s x) (t := nextN b t x) (fun i y hy => h (i + 1) y hy)]

theorem clean_sim {a b : Cir} {M : Nat} (ho : a.outs.length = b.outs.length) {xs : List Int} (h : cleanD a b M xs) : simS a 0 xs = simS b 0 xs := simS_eq ho xs h.2

theorem bis_sim {a b : Cir} {M : Nat} (ho : a.outs.length = b.outs.length) {P : Int × Int → Prop} (h : BisD a b M P) : ∀ (xs : List Int) (s t : Int), P (s, t) → (∀ x ∈ xs, 0 ≤ x ∧ x < M) → simS a s xs = simS b t xs
  | [], _, _, _, _ => rfl
  | x :: xs, s, t, hp, hx => by
    obtain ⟨x0, x1⟩ := hx x List.mem_cons_self
    obtain ⟨y, rfl⟩ : ∃ y : Nat, x = y := ⟨x.toNat, by omega⟩
    have hy : y < M := by omega
    have h0 := h.agree _ hp y hy
    rw [hitD_iff ho] at h0
    show outsV a s y :: simS a (nextN a s y) xs = outsV b t y :: simS b (nextN b t y) xs
    have e0 : outsV a s y = outsV b t y := h0
    rw [e0, bis_sim ho h xs _ _ (h.step _ hp y hy) fun z hz => hx z (List.mem_cons_of_mem _ hz)]

/-- What a returned sequence says. -/
theorem dis_says {a b : Cir} (ho : a.outs.length = b.outs.length) {r : List Int} (h : disD a b = some r) :
    ∃ n, r.length = n + 1 ∧ (∀ x ∈ r, 0 ≤ x ∧ x < ((2 ^ a.inp.toNat : Nat) : Int)) ∧ (simS a 0 r).take n = (simS b 0 r).take n ∧ (simS a 0 r)[n]? ≠ (simS b 0 r)[n]? := by
  obtain ⟨xs, x, rfl, hc, hx, hh⟩ := disD_found h
  refine ⟨xs.length, by simp, ?_, ?_, ?_⟩
  · intro y hy
    rcases List.mem_append.1 hy with hy | hy
    · exact hc.1 y hy
    · simp at hy; subst hy; exact hx
  · rw [simS_snoc, simS_snoc, List.take_append_of_le_length (by rw [simS_length]; exact Nat.le_refl _), List.take_append_of_le_length (by rw [simS_length]; exact Nat.le_refl _), clean_sim ho hc]
  · rw [simS_snoc, simS_snoc, List.getElem?_append_right (by rw [simS_length]; exact Nat.le_refl _), List.getElem?_append_right (by rw [simS_length]; exact Nat.le_refl _), simS_length, simS_length, Nat.sub_self]
    intro e
    simp only [List.getElem?_cons_zero, Option.some.injEq] at e
    rw [runD_eq] at hh
    have : hitD a b (runN a 0 xs, runN b 0 xs) x = false := (hitD_iff ho _ _).2 e
    rw [this] at hh
    cases hh

theorem none_says {a b : Cir} (ho : a.outs.length = b.outs.length) (h : disD a b = none) {xs : List Int} (hx : ∀ x ∈ xs, 0 ≤ x ∧ x < ((2 ^ a.inp.toNat : Nat) : Int)) : simS a 0 xs = simS b 0 xs := by
  obtain ⟨L, l0, l1, l2⟩ := disD_closed h
  exact bis_sim ho (P := (· ∈ L)) ⟨l0, fun s hs x hx => (l2 s hs x hx).1, fun s hs x hx => (l2 s hs x hx).2⟩ xs 0 0 l0 (by exact_mod_cast hx)

def markW (u : List Bool) (l : Int) : List Bool := u.set (l / 2).toNat true

theorem markW_length (u : List Bool) (l : Int) : (markW u l).length = u.length := by simp [markW]

def latW (c : Cir) (u : List Bool) : Nat → List Bool
  | 0 => u
  | k + 1 => match c.next[k]? with
    | some l => if (latW c u k).getD (1 + c.inp.toNat + k) false then markW (latW c u k) l else latW c u k
    | none => latW c u k

theorem latW_some {c : Cir} {u : List Bool} {k : Nat} {l : Int} (h : c.next[k]? = some l) : latW c u (k + 1) = if (latW c u k).getD (1 + c.inp.toNat + k) false then markW (latW c u k) l else latW c u k := by
  conv => lhs; unfold latW
  rw [h]

/-- Gates from the last to the first: gatW c k u has walked those below k. -/
def gatW (c : Cir) : Nat → List Bool → List Bool
  | 0, u => u
  | k + 1, u => match c.gates[k]? with
    | some g => gatW c k (if u.getD (c.first.toNat + k) false then markW (markW u g.a) g.b else u)
    | none => gatW c k u

theorem gatW_some {c : Cir} {u : List Bool} {k : Nat} {g : Gt} (h : c.gates[k]? = some g) : gatW c (k + 1) u = gatW c k (if u.getD (c.first.toNat + k) false then markW (markW u g.a) g.b else u) := by
  conv => lhs; unfold gatW
  rw [h]

def rndW (c : Cir) (u : List Bool) : List Bool := gatW c c.gates.length (latW c u c.next.length)

def rndsW (c : Cir) : Nat → List Bool → List Bool
  | 0, u => u
  | n + 1, u => rndW c (rndsW c n u)

def outW (c : Cir) (k : Nat) : List Bool := (c.outs.take k).foldl markW (List.replicate c.vars.toNat false)

theorem outW_snoc {c : Cir} {k : Nat} {l : Int} (h : c.outs[k]? = some l) : outW c (k + 1) = markW (outW c k) l := by
  unfold outW; rw [List.take_add_one, h]; simp

def usedW (c : Cir) : List Bool := rndsW c (c.next.length + 1) (outW c c.outs.length)

theorem foldl_markW_length (xs : List Int) : ∀ u : List Bool, (xs.foldl markW u).length = u.length := by
  induction xs with
  | nil => intro u; rfl
  | cons x xs ih => intro u; show (xs.foldl markW (markW u x)).length = _; rw [ih, markW_length]

theorem outW_length (c : Cir) (k : Nat) : (outW c k).length = c.vars.toNat := by unfold outW; rw [foldl_markW_length]; simp

theorem latW_length (c : Cir) (u : List Bool) : ∀ k, (latW c u k).length = u.length
  | 0 => rfl
  | k + 1 => by
    unfold latW
    split
    · split
      · rw [markW_length, latW_length]
      · exact latW_length c u k
    · exact latW_length c u k

theorem gatW_length (c : Cir) : ∀ (k : Nat) (u : List Bool), (gatW c k u).length = u.length
  | 0, _ => rfl
  | k + 1, u => by
    unfold gatW
    split
    · rw [gatW_length]; split
      · rw [markW_length, markW_length]
      · rfl
    · exact gatW_length c k u

theorem rndsW_length (c : Cir) : ∀ (n : Nat) (u : List Bool), (rndsW c n u).length = u.length
  | 0, _ => rfl
  | n + 1, u => by show (rndW c (rndsW c n u)).length = _; unfold rndW; rw [gatW_length, latW_length, rndsW_length]

theorem usedW_length (c : Cir) : (usedW c).length = c.vars.toNat := by unfold usedW; rw [rndsW_length, outW_length]

/-! The circuit without unused latches. -/

/-- How many of the first k latches are kept. -/
def kpW (c : Cir) (k : Nat) : Nat := ((List.range k).filter fun (j : Nat) => (usedW c).getD (1 + c.inp.toNat + j) false).length

theorem kpW_succ (c : Cir) (k : Nat) : kpW c (k + 1) = kpW c k + if (usedW c).getD (1 + c.inp.toNat + k) false then 1 else 0 := by
  unfold kpW
  rw [List.range_succ, List.filter_append, List.length_append]
  congr 1
  rw [List.filter_cons]
  split <;> simp_all

theorem kpW_le (c : Cir) (k : Nat) : kpW c k ≤ k := by
  have := List.length_filter_le (fun (j : Nat) => (usedW c).getD (1 + c.inp.toNat + j) false) (List.range k)
  simpa [kpW] using this

theorem kpW_mono (c : Cir) (j : Nat) : ∀ d, kpW c j ≤ kpW c (j + d)
  | 0 => Nat.le_refl _
  | d + 1 => by rw [← Nat.add_assoc, kpW_succ]; have := kpW_mono c j d; omega

theorem kpW_lt {c : Cir} {j n : Nat} (h : (usedW c).getD (1 + c.inp.toNat + j) false = true) (hj : j < n) : kpW c j < kpW c n := by
  have h1 := kpW_succ c j
  rw [if_pos h] at h1
  have h2 := kpW_mono c (j + 1) (n - (j + 1))
  rw [show j + 1 + (n - (j + 1)) = n by omega] at h2
  omega

/-- Where a variable goes. -/
def plW (c : Cir) (v : Nat) : Nat :=
  if v < 1 + c.inp.toNat then v
  else if v < 1 + c.inp.toNat + c.next.length then (if (usedW c).getD v false then 1 + c.inp.toNat + kpW c (v - (1 + c.inp.toNat)) else 0)
  else 1 + c.inp.toNat + kpW c c.next.length + (v - (1 + c.inp.toNat + c.next.length))

def rmL (c : Cir) (l : Int) : Int := 2 * ((plW c (l / 2).toNat : Nat) : Int) + l % 2

/-- The next-state literals of the first k latches that are kept. -/
def nxW (c : Cir) : Nat → List Int
  | 0 => []
  | k + 1 => match c.next[k]? with
    | some l => if (usedW c).getD (1 + c.inp.toNat + k) false then nxW c k ++ [rmL c l] else nxW c k
    | none => nxW c k

theorem nxW_some {c : Cir} {k : Nat} {l : Int} (h : c.next[k]? = some l) : nxW c (k + 1) = if (usedW c).getD (1 + c.inp.toNat + k) false then nxW c k ++ [rmL c l] else nxW c k := by
  conv => lhs; unfold nxW
  rw [h]

theorem nxW_length (c : Cir) : ∀ k, k ≤ c.next.length → (nxW c k).length = kpW c k
  | 0, _ => rfl
  | k + 1, h => by
    obtain ⟨l, hl⟩ := get_of_lt (l := c.next) (k := k) (by omega)
    rw [nxW_some hl, kpW_succ]
    have := nxW_length c k (by omega)
    split <;> simp [this]

def rmC (c : Cir) : Cir := ⟨c.inp, nxW c c.next.length, mapG (rmL c) c.gates, c.outs.map (rmL c)⟩

theorem rmC_next (c : Cir) : (rmC c).next.length = kpW c c.next.length := nxW_length c _ (Nat.le_refl _)

theorem rmL_lit {c : Cir} {ni : Nat} (hi : c.inp = ni) {l n : Int} (h : litP l (1 + ni + c.next.length + n)) (hn : 0 ≤ n) : litP (rmL c l) (1 + ni + kpW c c.next.length + n) := by
  obtain ⟨h0, h1⟩ := h
  obtain ⟨v, hv⟩ : ∃ v : Nat, l / 2 = v := ⟨(l / 2).toNat, by omega⟩
  unfold rmL plW litP
  rw [hv, hi, Int.toNat_natCast, Int.toNat_natCast]
  by_cases e1 : v < 1 + ni
  · rw [if_pos e1]; omega
  · rw [if_neg e1]
    by_cases e2 : v < 1 + ni + c.next.length
    · rw [if_pos e2]
      by_cases e3 : (usedW c).getD v false = true
      · rw [if_pos e3]
        have := kpW_lt (c := c) (j := v - (1 + ni)) (n := c.next.length) (by rw [hi, Int.toNat_natCast, show 1 + ni + (v - (1 + ni)) = v by omega]; exact e3) (by omega)
        omega
      · rw [if_neg e3]; omega
    · rw [if_neg e2]; omega

theorem rmC_valid {c : Cir} (hv : c.valid) : (rmC c).valid := by
  obtain ⟨q1, q2, q3, q4, q5⟩ := hv.lim
  obtain ⟨ni, hi⟩ : ∃ ni : Nat, c.inp = ni := ⟨c.inp.toNat, by omega⟩
  have hkn := kpW_le c c.next.length
  have eF : (rmC c).first = 1 + ni + kpW c c.next.length := by unfold Cir.first; rw [rmC_next]; show 1 + c.inp + _ = _; rw [hi]
  have eV : (rmC c).vars = 1 + ni + kpW c c.next.length + c.gates.length := by unfold Cir.vars; rw [rmC_next]; simp [rmC, mapG, hi]
  have cF : c.first = 1 + ni + c.next.length := by unfold Cir.first; rw [hi]
  have cV : c.vars = 1 + ni + c.next.length + c.gates.length := by unfold Cir.vars; rw [hi]
  refine ⟨⟨q1, q2, by rw [rmC_next]; omega, by simpa [rmC, mapG] using q4, by simpa [rmC] using q5⟩, ?_, ?_, ?_⟩
  · rw [eF]
    intro i h
    have hi' : i < c.gates.length := by simpa [rmC, mapG] using h
    have := hv.gates i hi'
    rw [cF] at this
    simp only [rmC, mapG, List.getElem_map]
    exact ⟨rmL_lit hi this.1 (by omega), rmL_lit hi this.2 (by omega)⟩
  · rw [eV]
    have key : ∀ k, ∀ x ∈ nxW c k, litP x (1 + ni + kpW c c.next.length + c.gates.length) := by
      intro k
      induction k with
      | zero => intro x hx; simp [nxW] at hx
      | succ k ih =>
        intro x hx
        unfold nxW at hx
        split at hx
        · next l hl =>
          have h1 := hv.next l (List.mem_of_getElem? hl)
          rw [cV] at h1
          split at hx
          · rcases List.mem_append.1 hx with hx | hx
            · exact ih x hx
            · simp at hx; subst hx; exact rmL_lit hi h1 (by omega)
          · exact ih x hx
        · exact ih x hx
    exact key _
  · rw [eV]
    intro x hx
    simp only [rmC, List.mem_map] at hx
    obtain ⟨y, hy, rfl⟩ := hx
    have h1 := hv.outs y hy
    rw [cV] at h1
    exact rmL_lit hi h1 (by omega)

def rmR (c : Cir) : Cir := if c.validB then optC (rmC c) else ⟨0, [], [], []⟩

theorem rmR_no {c : Cir} (h : c.validB = false) : rmR c = ⟨0, [], [], []⟩ := by unfold rmR; rw [h]; rfl

theorem rmR_yes {c : Cir} (h : c.validB = true) : rmR c = optC (rmC c) := by unfold rmR; rw [h]; rfl

def mW (c : Cir) (k : Nat) : List Int := (List.range k).map fun (v : Nat) => 2 * ((plW c v : Nat) : Int)

theorem mW_length (c : Cir) (k : Nat) : (mW c k).length = k := by simp [mW]

theorem mW_succ (c : Cir) (k : Nat) : mW c (k + 1) = mW c k ++ [2 * ((plW c k : Nat) : Int)] := by simp [mW, List.range_succ]

theorem plW_le (c : Cir) (v : Nat) : plW c v ≤ v := by
  unfold plW
  have h1 := kpW_le c c.next.length
  split
  · omega
  · split
    · split
      · have := kpW_le c (v - (1 + c.inp.toNat)); omega
      · omega
    · omega

theorem mW_mem {c : Cir} {k : Nat} {x : Int} (h : x ∈ mW c k) : 0 ≤ x ∧ x < 2 * (k : Int) := by
  obtain ⟨v, hv, rfl⟩ := List.mem_map.1 h
  have h1 := List.mem_range.1 hv
  have h2 := plW_le c v
  omega

theorem mW_map {c : Cir} {K : Nat} {l : Int} (h0 : 0 ≤ l) (h1 : l / 2 < (K : Int)) : mapB (mW c K) l = rmL c l := by
  have e : (mW c K).getD (l / 2).toNat 0 = 2 * ((plW c (l / 2).toNat : Nat) : Int) := by
    unfold mW
    rw [List.getD_eq_getElem?_getD, List.getElem?_map, List.getElem?_range (by omega)]; rfl
  unfold mapB
  rw [e]
  unfold xrb rmL
  omega

theorem rmL_bd {c : Cir} {l : Int} (h0 : 0 ≤ l) (h1 : l < 44) : 0 ≤ rmL c l ∧ rmL c l < 44 := by
  unfold rmL
  have := plW_le c (l / 2).toNat
  omega

theorem chg_set {S : Nat → Prop} (w : World) {b : Nat} (o : Nat) (v : Value) (h : S b) : Chg S w (w.setCell ⟨b, o, none⟩ v) :=
  ⟨rfl, rfl, rfl, by simp, fun k _ hn => blk_set_ne (fun e => hn (e ▸ h)) rfl⟩

theorem ints_snoc {xs : List Int} {x y : Int} (h : x = y) : ints xs ++ [Value.int .i64 x] = ints (xs ++ [y]) := by rw [h, ← ints_append]; rfl

/-- Only one block turns below Y. -/
def OneB (X Y : Nat) (w w' : World) : Prop := Chg (fun k => k = X ∨ Y ≤ k) w w' ∧ Y ≤ w.heap.size

theorem OneB.refl {X Y : Nat} {w : World} (h : Y ≤ w.heap.size) : OneB X Y w w := ⟨Chg.refl _ _, h⟩

theorem OneB.trans {X Y : Nat} {a b d : World} (h : OneB X Y a b) (k : OneB X Y b d) : OneB X Y a d := ⟨h.1.trans k.1, h.2⟩

theorem OneB.below {X Y : Nat} {a b d : World} (h : OneB X Y a b) (k : Below Y b d) : OneB X Y a d := ⟨h.1.trans ⟨k.os, k.tape, k.output, k.size, fun i _ hn => k.block i (by simp at hn; omega)⟩, h.2⟩

theorem OneB.set {X Y : Nat} {a b : World} (h : OneB X Y a b) (o : Nat) (v : Value) : OneB X Y a (b.setCell ⟨X, o, none⟩ v) := ⟨h.1.trans (chg_set b o v (.inl rfl)), h.2⟩

theorem OneB.size {X Y : Nat} {a b : World} (h : OneB X Y a b) : Y ≤ b.heap.size := Nat.le_trans h.2 h.1.size

theorem OneB.below2 {X Y B : Nat} {a b : World} (h : OneB X Y a b) (hX : B ≤ X) (hY : B ≤ Y) : Below B a b := h.1.below (by have := h.2; omega) (fun k hk e => by omega)

theorem OneB.own {X Y : Nat} {a b : World} (h : OneB X Y a b) {base : Nat} {e : TypeId} {size : Nat} {v : Value} {n : Nat} {xs : List Value} (ho : a.ownsRow base e size v n xs) (h1 : v.ownBlock ≠ some X) (h2 : ∀ k, v.ownBlock = some k → k < Y) : b.ownsRow base e size v n xs :=
  h.1.own ho (fun k hk e => by rcases e with e | e
                               · subst e; exact h1 hk
                               · have := h2 k hk; omega)

theorem OneB.up {X Y Y2 : Nat} {a b : World} (h : OneB X Y2 a b) (hy : Y ≤ Y2) : OneB X Y a b :=
  ⟨⟨h.1.os, h.1.tape, h.1.output, h.1.size, fun k hk hn => h.1.block k hk (fun e => hn (by rcases e with e | e; exact .inl e; exact .inr (by omega)))⟩, Nat.le_trans hy h.2⟩

theorem drewB {w : World} {X : Nat} {o : Obj} (h : w.heap[X]? = some o) : w.drew.heap[X]? = some o := h

structure TriO (w : World) (base np nf nh : Nat) (vp vf vh : Value) (ps fr hw : List Int) : Prop where
  p : w.ownsRow base 3 1 vp np (ints ps)
  f : w.ownsRow base 3 1 vf nf (ints fr)
  h : w.ownsRow base 3 1 vh nh (ints hw)
  pf : ∀ k, vp.ownBlock = some k → vf.ownBlock ≠ some k
  fh : ∀ k, vf.ownBlock = some k → vh.ownBlock ≠ some k
  hp : ∀ k, vh.ownBlock = some k → vp.ownBlock ≠ some k

theorem TriO.below {w w' : World} {base np nf nh : Nat} {vp vf vh : Value} {ps fr hw : List Int} (h : TriO w base np nf nh vp vf vh ps fr hw) (hb : Below w.heap.size w w') : TriO w' base np nf nh vp vf vh ps fr hw :=
  ⟨own_below h.p hb, own_below h.f hb, own_below h.h hb, h.pf, h.fh, h.hp⟩

theorem TriO.rot {w : World} {base np nf nh : Nat} {vp vf vh : Value} {ps fr hw : List Int} (h : TriO w base np nf nh vp vf vh ps fr hw) : TriO w base nf nh np vf vh vp fr hw ps := ⟨h.f, h.h, h.p, h.fh, h.hp, h.pf⟩

/-- The first row grows. -/
theorem TriO.push {w w2 : World} {base np np' nf nh : Nat} {vp vf vh vp' : Value} {ps ps' fr hw : List Int} (h : TriO w base np nf nh vp vf vh ps fr hw) (hg : w.grownBy w2 vp.ownBlock) (ho : w2.ownsRow base 3 1 vp' np' (ints ps')) (hb : vp'.ownBlock = vp.ownBlock ∨ vp'.ownBlock = some w.heap.size) : TriO w2 base np' nf nh vp' vf vh ps' fr hw := by
  have hc := Chg.of_grown hg
  refine ⟨ho, hc.own h.f (fun k hk e => h.pf k e hk), hc.own h.h (fun k hk e => h.hp k hk e), fun k hk e => ?_, h.fh, fun k hk e => ?_⟩
  · rcases hb with hb | hb
    · exact h.pf k (hb ▸ hk) e
    · rw [hb] at hk; cases hk; have := (own_blk h.f e).2; omega
  · rcases hb with hb | hb
    · exact h.hp k hk (hb ▸ e)
    · rw [hb] at e; cases e; have := (own_blk h.h hk).2; omega

/-- Where the pairs came from and with which inputs. -/
structure FH (es : List En) (fr hw : List Int) : Prop where
  lf : fr.length = es.length
  lh : hw.length = es.length
  zero : ∀ e, es[0]? = some e → e.2 = []
  prev : ∀ (i : Nat) (e : En), es[i]? = some e → 0 < i → ∃ (j : Nat) (e' : En) (x : Int), j < i ∧ fr[i]? = some (j : Int) ∧ hw[i]? = some x ∧ es[j]? = some e' ∧ e.2 = e'.2 ++ [x] ∧ 0 ≤ x ∧ x ≤ 1000

theorem FH.start (p : Int × Int) : FH [(p, [])] [0] [0] :=
  ⟨rfl, rfl, fun e h => by simp at h; subst h; rfl, fun i e h hi => by have := (List.getElem?_eq_some_iff.1 h).1; simp at this; omega⟩

theorem FH.add {es : List En} {fr hw : List Int} (h : FH es fr hw) {k : Nat} {e : En} (hk : es[k]? = some e) (n : Int × Int) {x : Int} (h0 : 0 ≤ x) (h1 : x ≤ 1000) : FH (es ++ [(n, e.2 ++ [x])]) (fr ++ [(k : Int)]) (hw ++ [x]) := by
  have hkl := (List.getElem?_eq_some_iff.1 hk).1
  refine ⟨by simp [h.lf], by simp [h.lh], fun e' he => ?_, fun i e' he hi => ?_⟩
  · rw [List.getElem?_append_left (by omega)] at he
    exact h.zero e' he
  · by_cases hlt : i < es.length
    · rw [List.getElem?_append_left hlt] at he
      obtain ⟨j, e2, y, hj, a1, a2, a3, a4, a5⟩ := h.prev i e' he hi
      exact ⟨j, e2, y, hj, by rw [List.getElem?_append_left (by rw [h.lf]; exact hlt)]; exact a1, by rw [List.getElem?_append_left (by rw [h.lh]; exact hlt)]; exact a2, by rw [List.getElem?_append_left (by omega)]; exact a3, a4, a5⟩
    · have hi2 := (List.getElem?_eq_some_iff.1 he).1
      simp at hi2
      obtain rfl : i = es.length := by omega
      rw [List.getElem?_append_right (Nat.le_refl _), Nat.sub_self] at he
      simp at he
      subst he
      exact ⟨k, e, x, hkl, by rw [List.getElem?_append_right (by rw [h.lf]; exact Nat.le_refl _), h.lf, Nat.sub_self]; rfl, by rw [List.getElem?_append_right (by rw [h.lh]; exact Nat.le_refl _), h.lh, Nat.sub_self]; rfl, by rw [List.getElem?_append_left hkl]; exact hk, rfl, h0, h1⟩

theorem FH.len {es : List En} {fr hw : List Int} (h : FH es fr hw) : ∀ (i : Nat) (e : En), es[i]? = some e → e.2.length ≤ i := by
  intro i
  induction i using Nat.strongRecOn with
  | ind i ih =>
    intro e he
    by_cases h0 : i = 0
    · subst h0; rw [h.zero e he]; simp
    · obtain ⟨j, e2, x, hj, -, -, a3, a4, -⟩ := h.prev i e he (by omega)
      have := ih j hj e2 a3
      rw [a4]; simp; omega

def codeP (s : Int × Int) : Int := s.1 + 64 * s.2

theorem codeP_inj {s t : Int × Int} (h1 : 0 ≤ s.1 ∧ s.1 < 64) (h2 : 0 ≤ t.1 ∧ t.1 < 64) (h : codeP s = codeP t) : s = t := by
  unfold codeP at h
  exact Prod.ext (by omega) (by omega)

def codes (es : List En) : List Int := es.map fun e => codeP e.1

theorem codes_length (es : List En) : (codes es).length = es.length := by simp [codes]

theorem codes_mem {es : List En} {n : Int × Int} (hn : 0 ≤ n.1 ∧ n.1 < 64) (h : ∀ e ∈ es, 0 ≤ e.1.1 ∧ e.1.1 < 64) : codeP n ∈ codes es ↔ n ∈ es.map (·.1) := by
  unfold codes
  constructor
  · intro hm
    obtain ⟨e, he, e1⟩ := List.mem_map.1 hm
    exact List.mem_map.2 ⟨e, he, codeP_inj (h e he) hn e1⟩
  · intro hm
    obtain ⟨e, he, rfl⟩ := List.mem_map.1 hm
    exact List.mem_map.2 ⟨e, he, rfl⟩

/-- The rows of inputs that are returned. -/
def rowsX (ni : Nat) (r : List Int) : List (List Bool) := r.map fun x => bitsV x ni

theorem rowsX_length (ni : Nat) (r : List Int) : (rowsX ni r).length = r.length := by simp [rowsX]

theorem elem_bss2 : ElemOf Try.prog 40 39 (.slice none 0 0) 1 24 :=
  ⟨by kernel_rfl, info_parts (by kernel_rfl), rfl, by omega⟩

/-- Rows of Booleans in blocks from B on. -/
def SlBA (w : World) (B : Nat) (s : Option Addr) (rows : List (List Bool)) : Prop :=
  ∃ vs : List Value, vs.length = rows.length ∧ Sl w s vs ∧ (∀ a, s = some a → B ≤ a.block) ∧ (∀ u ∈ vs, u.oneCell' = true) ∧ ∀ (i : Nat) (r : List Bool), rows[i]? = some r → ∃ si ci, vs[i]? = some (Value.slice si r.length ci) ∧ Sl w si (bools r) ∧ ∀ a, si = some a → B ≤ a.block

theorem SlBA.slb {w : World} {B : Nat} {s : Option Addr} {rows : List (List Bool)} (h : SlBA w B s rows) : SlB w s rows := by
  obtain ⟨vs, h1, h2, -, -, h5⟩ := h
  exact ⟨vs, h1, h2, fun i r hr => by obtain ⟨si, ci, e1, e2, -⟩ := h5 i r hr; exact ⟨si, ci, e1, e2⟩⟩

theorem SlBA.mono {w w' : World} {B : Nat} {s : Option Addr} {rows : List (List Bool)} (h : SlBA w B s rows) (hb : Below w.heap.size w w') : SlBA w' B s rows := by
  obtain ⟨vs, h1, h2, h3, h4, h5⟩ := h
  exact ⟨vs, h1, h2.mono hb, h3, h4, fun i r hr => by obtain ⟨si, ci, e1, e2, e3⟩ := h5 i r hr; exact ⟨si, ci, e1, e2.mono hb, e3⟩⟩

theorem Sl.setlow {w : World} {B r o : Nat} {s : Option Addr} {cs : List Value} {v : Value} (h : Sl w s cs) (hB : ∀ a, s = some a → B ≤ a.block) (hr : r < B) : Sl (w.setCell ⟨r, o, none⟩ v) s cs := by
  rcases h with rfl | ⟨b, off, rfl, h⟩
  · exact .inl rfl
  · have hb := hB _ rfl
    refine .inr ⟨b, off, rfl, fun j u hu => ?_⟩
    have := h j u hu
    unfold World.cell? at this ⊢
    rw [blk_set_ne (b := b) (c := r) (x := w.heap[b]?) (by simp only at hb; omega) rfl]
    exact this

theorem SlBA.setlow {w : World} {B r o : Nat} {s : Option Addr} {rows : List (List Bool)} {v : Value} (h : SlBA w B s rows) (hr : r < B) : SlBA (w.setCell ⟨r, o, none⟩ v) B s rows := by
  obtain ⟨vs, h1, h2, h3, h4, h5⟩ := h
  exact ⟨vs, h1, h2.setlow h3 hr, h3, h4, fun i q hq => by obtain ⟨si, ci, e1, e2, e3⟩ := h5 i q hq; exact ⟨si, ci, e1, e2.setlow e3 hr, e3⟩⟩

theorem own_from {w : World} {base : Nat} {e : TypeId} {size : Nat} {s : Option Addr} {c n : Nat} {xs : List Value} (h : w.ownsRow base e size (.slice s n c) n xs) : ∀ a, s = some a → base ≤ a.block := by
  intro a ha
  rcases h.2 with ⟨h', -⟩ | ⟨g, cap, cur, h', hb, -⟩
  · simp only [Value.slice.injEq] at h'
    obtain ⟨rfl, -⟩ := h'
    cases ha
  · simp only [Value.slice.injEq] at h'
    obtain ⟨rfl, -⟩ := h'
    cases ha
    exact hb

theorem SlBA.one {w : World} {B : Nat} {s : Option Addr} {c n : Nat} {bs : List Bool} (h : Sl w s (bools bs)) (hB : ∀ a, s = some a → B ≤ a.block) (hw : B ≤ w.heap.size) (hn : n = bs.length) (t : TypeId) : SlBA (w.alloc (.cells #[.slice s n c] t)) B (some ⟨w.heap.size, 0, none⟩) [bs] := by
  subst hn
  refine ⟨[.slice s bs.length c], rfl, Sl.new _ _ _, fun a ha => by cases ha; exact hw, by simp [Value.oneCell'], fun i r hr => ?_⟩
  cases i with
  | zero => simp at hr; subst hr; exact ⟨s, c, rfl, h.mono ((Below.refl _ _).alloc (Nat.le_refl _) _), hB⟩
  | succ i => simp at hr

set_option maxHeartbeats 400000 in
theorem l4Bits_own (x : Int) (n : Nat) (w : World) (h0 : 0 ≤ x) (h1 : x ≤ 1000000) (hn : n ≤ 20) :
    Calls Try.prog 131 #[.int .i64 x, .int .i64 n] w fun e w' => ∃ s c, e = .returned (.slice s n c) ∧ w'.ownsRow w.heap.size 4 1 (.slice s n c) n (bools (bitsV x n)) ∧ Below w.heap.size w w' := by
  have hA : Below w.heap.size w (w.alloc (.cells #[] 4)) := (Below.refl _ _).alloc (Nat.le_refl _) _
  have ho : (w.alloc (.cells #[] 4)).ownsRow w.heap.size 4 1 (.slice (some ⟨w.heap.size, 0, none⟩) 0 0) 0 [] := own_of_blk (n := 0) (cur := #[]) (blk_new w _) (Nat.le_refl _) (by simp) (by unfold maxLen; omega)
  have HO := Lib.hid (And.intro ho hA)
  clear ho hA
  go_enter Try.func131, Try.ntmps131
  go_wp2
  revert HO
  generalize w.alloc (.cells #[] 4) = WA
  intro HO
  go_loopw [6, 5] (fun i v wr => ∃ (k : Nat) (s : Option Addr) (c : Nat), k ≤ n ∧ i = .int .i64 k ∧ v = .slice s k c ∧ wr.ownsRow w.heap.size 4 1 v k (bools (bitsV x k)) ∧ Below w.heap.size w wr) (fun i _ _ => n - (intOf i).toNat)
  case atStart => exact ⟨0, _, _, Nat.zero_le _, rfl, rfl, HO.out.1, HO.out.2⟩
  case round =>
    obtain ⟨k, so, c, hk, rfl, rfl, ho, hbl⟩ := hrel
    by_cases hlt : k < n
    · have hpw : (1 : Int) ≤ 2 ^ k := by have : (0 : Int) < 2 ^ k := Int.pow_pos (by decide); omega
      have q1 : 0 ≤ x / 2 ^ k := Int.ediv_nonneg h0 (by omega)
      have q2 : x / 2 ^ k ≤ 1000000 := Int.le_trans (Int.ediv_le_self _ h0) h1
      have hbs := hbl.size
      have HR := Lib.hid (And.intro ho (And.intro hbl hpw))
      clear ho hbl hpw
      go_wp2_with (at_builtin; refine wpl_app rfl _ _ rfl elem_bool (own_below HR.out.1 ((Below.refl _ _).alloc (Nat.le_refl _) _)) rfl rfl rfl (Sl.new _ _ _) (by simp [Value.oneCell']) (k + 1) rfl _ rfl (by unfold maxLen; omega) (by omega) (by simp; omega) ?_; intro s3 c3 w3 h3 hb3 _ _; have HA := Lib.hid (And.intro h3 hb3); clear h3 hb3)
      go_roundw
      case rel =>
        refine ⟨k + 1, s3, c3, by omega, by go_num, rfl, ?_, (HR.out.2.1.alloc hbs _).trans HA.out.2⟩
        have e := HA.out.1
        rw [bitsV_snoc]
        unfold bools at *
        rw [List.map_append]
        exact e
      case measure => simp [intOf]; omega
    · obtain rfl : k = n := by omega
      have HR := Lib.hid (And.intro ho hbl)
      clear ho hbl
      go_wp2
      go_ret
      exact ⟨_, _, rfl, HR.out.1, HR.out.2⟩

set_option maxRecDepth 100000 in
set_option maxHeartbeats 1600000 in
theorem l16Rows_any (ni : Nat) (vn vg vo : Value) (sf sh : Option Addr) (cf ch : Nat) (es : List En) (fr hw : List Int) (k : Nat) (e0 : En) (last : Int) (w : World) (n4 : ni ≤ 4) (hF : FH es fr hw) (hs : Sl w sf (ints fr)) (hh : Sl w sh (ints hw)) (hk : es[k]? = some e0) (hl0 : 0 ≤ last) (hl1 : last ≤ 1000) (hlen : es.length ≤ 1000) :
    Calls Try.prog 100 #[.agg #[.int .i64 ni, vn, vg, vo], .slice sf es.length cf, .slice sh es.length ch, .int .i64 k, .int .i64 last] w fun e w' => ∃ s cap, e = .returned (.slice s (e0.2.length + 1) cap) ∧ SlBA w' w.heap.size s (rowsX ni (e0.2 ++ [last])) ∧ Below w.heap.size w w' := by
  have hkl := (List.getElem?_eq_some_iff.1 hk).1
  have hL := hF.len k e0 hk
  obtain ⟨W0, hW0⟩ : ∃ W0, W0 = w.alloc (.cells #[.int .i64 ni, vn, vg, vo] 26) := ⟨_, rfl⟩
  have hbx : W0.heap[w.heap.size]? = some (.cells #[.int .i64 ni, vn, vg, vo] 26 (0, 0)) := by rw [hW0]; exact blk_new _ _
  have hbw : Below w.heap.size w W0 := by rw [hW0]; exact (Below.refl _ _).alloc (Nat.le_refl _) _
  have HS := Lib.hid (And.intro hs (And.intro hh (And.intro hF (And.intro hk hL))))
  have HW := Lib.hid (And.intro hW0 (And.intro hbx hbw))
  obtain ⟨K0, hK0⟩ : ∃ K0, K0 = e0.2.length := ⟨_, rfl⟩
  rw [← hK0] at hL ⊢
  have HK0 := Lib.hid hK0
  have hK1 : K0 ≤ 1000 := by omega
  clear hs hh hF hk hL hW0 hbx hbw hK0
  go_enter Try.func100, Try.ntmps100
  go_upto_region 1 with fail
  rw [← HW.out.1]
  have cb := (blk_all HW.out.2.1).1
  go_upto_region 2 with (go_at_call 131; ((with_reducible refine (l4Bits_own last ni _ hl0 (by omega) (by omega)).mono ?_); rintro e w1 ⟨s1, c1, rfl, h1, hq⟩; have H1 := Lib.hid (And.intro h1 hq); clear h1 hq cb))
  have hb1 : Below w.heap.size w (w1.alloc (.cells #[.slice s1 ni c1] 39)) := (HW.out.2.2.trans (H1.out.2.mono HW.out.2.2.size)).alloc (Nat.le_trans HW.out.2.2.size H1.out.2.size) _
  have hx1 := blk_old (o := .cells #[.slice s1 ni c1] 39) (blk_below H1.out.2 (blk_lt HW.out.2.1) HW.out.2.1)
  have hr1 : SlBA (w1.alloc (.cells #[.slice s1 ni c1] 39)) w.heap.size (some ⟨w1.heap.size, 0, none⟩) (rowsX ni [last]) := SlBA.one (own_sl H1.out.1) (fun a ha => Nat.le_trans HW.out.2.2.size (own_from H1.out.1 a ha)) (Nat.le_trans HW.out.2.2.size H1.out.2.size) (bitsV_length _ _).symm _
  revert hb1 hx1 hr1
  generalize w1.alloc (.cells #[.slice s1 ni c1] 39) = W2
  intro hb1 hx1 hr1
  have HD := Lib.hid (And.intro hb1 (And.intro hx1 hr1))
  clear hb1 hx1 hr1 H1 HW
  go_loopw [3, 11] (fun v3 v11 wr => ∃ (p : Nat) (e : En) (suf : List Int) (s : Option Addr) (c : Nat), es[p]? = some e ∧ v3 = .int .i64 p ∧ v11 = .slice s suf.length c ∧ SlBA wr w.heap.size s (rowsX ni suf) ∧ e.2 ++ suf = e0.2 ++ [last] ∧ Below W2.heap.size W2 wr) (fun v3 _ _ => (intOf v3).toNat)
  case atStart => exact ⟨k, e0, [last], _, _, HS.out.2.2.2.1, rfl, rfl, HD.out.2.2, rfl, Below.refl _ _⟩
  case round =>
    obtain ⟨p, e, suf, s, c, he, rfl, rfl, hsb, hsuf, hbl⟩ := hrel
    have hpl := (List.getElem?_eq_some_iff.1 he).1
    have hbw := HD.out.1.trans (hbl.mono HD.out.1.size)
    by_cases h0 : p = 0
    · subst h0
      have hz := HS.out.2.2.1.zero e he
      have hsuf2 : suf = e0.2 ++ [last] := by rw [hz] at hsuf; simpa using hsuf
      have hsl : suf.length = K0 + 1 := by rw [hsuf2, HK0.out]; simp
      have hsb2 := hsb
      rw [hsuf2] at hsb2
      rw [hsl]
      have HR := Lib.hid (And.intro hsb2 hbw)
      clear hsb2 hsb hsuf hz hbl he hsuf2 hsl hbw
      go_wp2_with fail
      go_ret
      exact ⟨s, c, rfl, HR.out.1, HR.out.2⟩
    · obtain ⟨j, e', x, hj, a1, a2, a3, a4, x0, x1⟩ := HS.out.2.2.1.prev p e he (by omega)
      obtain ⟨fb, fo, rfl, hfb, -⟩ := HS.out.1.int hbw a1
      obtain ⟨hb, ho, rfl, hhb, -⟩ := HS.out.2.1.int hbw a2
      have hsl : suf.length ≤ K0 + 1 := by
        have h1 := congrArg List.length hsuf
        rw [List.length_append, List.length_append, ← HK0.out] at h1
        simp at h1; omega
      have HC : Hid (∀ W, Below wr.heap.size wr W → ((∀ o, W.cell? ⟨w.heap.size, o, none⟩ = #[Value.int .i64 ni, vn, vg, vo][o]?) ∧ W.cell? ⟨hb, ho + p, none⟩ = some (.int .i64 x)) ∧ W.cell? ⟨fb, fo + p, none⟩ = some (.int .i64 j)) := fun W hW => by
        have hq := hbl.trans (hW.mono hbl.size)
        refine ⟨⟨(blk_all (blk_below hq (blk_lt HD.out.2.1) HD.out.2.1)).1, ?_⟩, ?_⟩
        · obtain ⟨_, _, e1, -, z⟩ := HS.out.2.1.int (HD.out.1.trans (hq.mono HD.out.1.size)) a2
          cases e1; exact z
        · obtain ⟨_, _, e1, -, z⟩ := HS.out.1.int (HD.out.1.trans (hq.mono HD.out.1.size)) a1
          cases e1; exact z
      obtain ⟨vs, v1, v2, -, v3, v4⟩ := hsb
      rw [rowsX_length] at v1
      have hp0 : 0 < p := by omega
      have HR := Lib.hid (And.intro a3 (And.intro (show e'.2 ++ (x :: suf) = e0.2 ++ [last] by rw [← hsuf, a4]; simp) (And.intro hbl (And.intro v1 (And.intro v2 (And.intro v3 v4))))))
      clear he hsuf hbl hbw a1 a2 a3 a4 v1 v2 v3 v4 h0 hfb hhb
      go_upto_region 3 with fail
      refine wp_region_T (fun w' => (∀ o, w'.cell? ⟨w.heap.size, o, none⟩ = #[Value.int .i64 ni, vn, vg, vo][o]?) ∧ w'.cell? ⟨hb, ho + p, none⟩ = some (.int .i64 x)) (.q 0 (.q 1 (.q 2 (.q 3 (.q 4 (.q 5 (.q 8 (.e 6 (.e 7 (.e 9 (.q 10 .nil))))))))))) (by kernel_rfl) (by kernel_rfl) (by kernel_rfl) (HC.out _ (Below.refl _ _).drew).1 ?_
      repeat (first | (refine ordt_s (o := ?_) ?_ ?_ ?_; rotate_left 1; (focus ((simp only [zD, zE, zF]) <;> rfl)); (focus rfl); simp only [Act.put, zA, zB, zC]) | (refine ordt_q (o := ?_) (v := ?_) ?_ ?_ ?_ ?_; rotate_left 2; (focus ((simp only [zD, zE, zF]) <;> rfl)); (focus rfl); (focus (intro w' hS; (try dsimp only at hS); go_split_ands; go_simp; (try (with_reducible rfl)))); simp only [Act.put, zA, zB, zC]))
      refine ordt_e ?_
      (refine op_e (o := ?_) ?_ ?_ (fun K hK => ?_); rotate_left 1; (focus ((simp only [zD, zE, zF]) <;> rfl)); (focus rfl); go_simp)
      refine (l4Bits_own x ni _ x0 (by omega) (by omega)).mono ?_
      rintro e2 w3 ⟨s3, c3, rfl, h3, hq⟩
      have hq3 : Below wr.heap.size wr w3 := (Below.refl _ _).drew.trans hq
      refine hK.out _ _ (HC.out _ hq3).1 ?_
      clear hK K hq
      have H3 := Lib.hid (And.intro h3 hq3)
      clear h3 hq3
      (try simp only [Act.put, zA, zB, zC])
      repeat (first | (refine ordt_s (o := ?_) ?_ ?_ ?_; rotate_left 1; (focus ((simp only [zD, zE, zF]) <;> rfl)); (focus rfl); simp only [Act.put, zA, zB, zC]) | (refine ordt_q (o := ?_) (v := ?_) ?_ ?_ ?_ ?_; rotate_left 2; (focus ((simp only [zD, zE, zF]) <;> rfl)); (focus rfl); (focus (intro w' hS; (try dsimp only at hS); go_split_ands; go_simp; (try (with_reducible rfl)))); simp only [Act.put, zA, zB, zC]))
      refine ordt_e ?_
      (refine op_e (o := ?_) ?_ ?_ (fun K hK => ?_); rotate_left 1; (focus ((simp only [zD, zE, zF]) <;> rfl)); (focus rfl); go_simp)
      have hA := (Below.refl w3.heap.size w3).alloc (Nat.le_refl _) (.cells #[.slice s3 ni c3] 39)
      have hrow : (w3.alloc (.cells #[.slice s3 ni c3] 39)).ownsRow w3.heap.size 39 1 (.slice (some ⟨w3.heap.size, 0, none⟩) 1 1) 1 [.slice s3 ni c3] := own_of_blk (n := 1) (cur := #[.slice s3 ni c3]) (blk_new _ _) (Nat.le_refl _) (by simp) (by unfold maxLen; omega)
      revert hA hrow
      generalize w3.alloc (.cells #[.slice s3 ni c3] 39) = W4
      intro hA hrow
      refine hK.out _ _ (HC.out _ (H3.out.2.trans (hA.mono H3.out.2.size))).1 ?_
      clear hK K
      have H4 := Lib.hid (And.intro hA hrow)
      clear hA hrow
      (try simp only [Act.put, zA, zB, zC])
      repeat (first | (refine ordt_s (o := ?_) ?_ ?_ ?_; rotate_left 1; (focus ((simp only [zD, zE, zF]) <;> rfl)); (focus rfl); simp only [Act.put, zA, zB, zC]) | (refine ordt_q (o := ?_) (v := ?_) ?_ ?_ ?_ ?_; rotate_left 2; (focus ((simp only [zD, zE, zF]) <;> rfl)); (focus rfl); (focus (intro w' hS; (try dsimp only at hS); go_split_ands; go_simp; (try (with_reducible rfl)))); simp only [Act.put, zA, zB, zC]))
      refine ordt_e ?_
      (refine op_e (o := ?_) ?_ ?_ (fun K hK => ?_); rotate_left 1; (focus ((simp only [zD, zE, zF]) <;> rfl)); (focus rfl))
      refine wp_app (.tmp 26) (.tmp 27) rfl elem_bss2 H4.out.2 rfl rfl (by rw [HR.out.2.2.2.1, Nat.mul_one]) (HR.out.2.2.2.2.1.mono (H3.out.2.trans (H4.out.1.mono H3.out.2.size))) HR.out.2.2.2.2.2.1 (suf.length + 1) (Nat.add_comm _ _) (.slice s3 ni c3 :: vs) rfl (by unfold maxLen; omega) (by omega) H4.out.1.size ?_
      intro s6 c6 w6 h6 hb6 hg6 hob
      have hq36 := H4.out.1.trans hb6
      have hq6 := H3.out.2.trans (hq36.mono H3.out.2.size)
      refine hK.out _ _ (HC.out _ hq6).1 ?_
      clear hK K
      have hbig : w.heap.size ≤ w3.heap.size := by have h1 := HD.out.1.size; have h2 := HR.out.2.2.1.size; have h3 := H3.out.2.size; omega
      have hnew : SlBA w6 w.heap.size s6 (rowsX ni (x :: suf)) := by
        refine ⟨.slice s3 ni c3 :: vs, by simp [rowsX, HR.out.2.2.2.1], own_sl h6, fun a ha => Nat.le_trans hbig (own_from h6 a ha), fun u hu => (List.mem_cons.1 hu).elim (fun e => by rw [e]; simp [Value.oneCell']) (HR.out.2.2.2.2.2.1 u), fun i r hr => ?_⟩
        cases i with
        | zero =>
          simp [rowsX] at hr
          subst hr
          exact ⟨s3, c3, by rw [bitsV_length]; rfl, (own_sl H3.out.1).mono hq36, fun a ha => Nat.le_trans (by have h0 : wr.drew.heap.size = wr.heap.size := rfl; have h1 := HD.out.1.size; have h2 := HR.out.2.2.1.size; omega) (own_from H3.out.1 a ha)⟩
        | succ i =>
          obtain ⟨si, ci, e1, e2, e3⟩ := HR.out.2.2.2.2.2.2 i r (by simpa [rowsX] using hr)
          exact ⟨si, ci, e1, e2.mono hq6, e3⟩
      have H6 := Lib.hid (And.intro hnew (HR.out.2.2.1.trans (hq6.mono HR.out.2.2.1.size)))
      have z := (HC.out _ hq6).2
      clear hnew hbig h6 hb6 hg6 hob hq6 hq36
      (try simp only [Act.put, zA, zB, zC])
      repeat (first | (refine ordt_s (o := ?_) ?_ ?_ ?_; rotate_left 1; (focus ((simp only [zD, zE, zF]) <;> rfl)); (focus rfl); simp only [Act.put, zA, zB, zC]) | (refine ordt_q (o := ?_) (v := ?_) ?_ ?_ ?_ ?_; rotate_left 2; (focus ((simp only [zD, zE, zF]) <;> rfl)); (focus rfl); (focus (intro w' hS; (try dsimp only at hS); go_split_ands; go_simp; (try (with_reducible rfl)))); simp only [Act.put, zA, zB, zC]))
      refine ordt_nil ?_
      go_wp2_with fail
      go_roundw
      case rel => exact ⟨j, e', x :: suf, s6, c6, HR.out.1, by go_num, rfl, H6.out.1, HR.out.2.1, H6.out.2⟩
      case measure => simp [intOf]; omega

set_option maxHeartbeats 1600000 in
theorem rowsFit_any (b : Nat) (sn sg so s : Option Addr) (cn cg co cap ni : Nat) (c : Cir) (rows : List (List Bool)) (w : World) (hb : w.heap[b]? = some (.cells #[.int .i64 ni, .slice sn c.next.length cn, .slice sg c.gates.length cg, .slice so c.outs.length co] 26 (0, 0))) (hC : CirV w (.agg #[.int .i64 ni, .slice sn c.next.length cn, .slice sg c.gates.length cg, .slice so c.outs.length co]) c) (hs : SlB w s rows) (hv : c.validB = true) (n4 : ni ≤ 4) (hl : rows.length ≤ 40) (hr : ∀ r ∈ rows, r.length = ni) :
    Calls Try.prog 80 #[.pointer (some ⟨b, 0, none⟩), .slice s rows.length cap] w fun e w' => e = .returned (.bool true) ∧ Below w.heap.size w w' := by
  have HB : Hid (∀ W, Below w.heap.size w W → (∀ o, W.cell? ⟨b, o, none⟩ = #[Value.int .i64 ni, .slice sn c.next.length cn, .slice sg c.gates.length cg, .slice so c.outs.length co][o]?) ∧ CirV W (.agg #[.int .i64 ni, .slice sn c.next.length cn, .slice sg c.gates.length cg, .slice so c.outs.length co]) c ∧ SlB W s rows) := fun W hW =>
    ⟨(blk_all (blk_below hW (blk_lt hb) hb)).1, hC.mono hW, hs.mono hW⟩
  have HV := Lib.hid (And.intro hv hr)
  clear hb hC hs hv hr
  have cb := (HB.out w (Below.refl _ _)).1
  have hlt40 : ¬ (40 : Int) < (rows.length : Int) := by omega
  go_enter Try.func80, Try.ntmps80
  go_wp2_with (go_at_call 18; ((with_reducible refine (CircuitValid_i _ c _ (HB.out _ (Below.refl _ _)).2.1).mono ?_); rintro e w1 ⟨rfl, hq⟩; rw [HV.out.1]; have H1 := Lib.hid hq; clear hq cb))
  go_loopw [19] (fun i wr => ∃ k : Nat, k ≤ rows.length ∧ i = .int .i64 k ∧ Below w.heap.size w wr) (fun i _ => rows.length - (intOf i).toNat)
  case atStart => exact ⟨0, Nat.zero_le _, rfl, H1.out⟩
  case round =>
    obtain ⟨k, hk, rfl, hbl⟩ := hrel
    have cb := (HB.out _ hbl).1
    by_cases hlt : k < rows.length
    · obtain ⟨r, hr⟩ := get_of_lt hlt
      have hrl : r.length = ni := HV.out.2 r (List.mem_of_getElem? hr)
      obtain ⟨rb, ro, rs, rc, rfl, -, zr, -⟩ := (HB.out _ hbl).2.2.row (Below.refl _ _) hr
      rw [hrl] at zr
      have HR := Lib.hid hbl
      clear hbl hr hrl
      go_wp2_with fail
      clear cb
      go_roundw
      case rel => exact ⟨k + 1, by omega, by go_num, HR.out⟩
      case measure => simp [intOf]; omega
    · obtain rfl : k = rows.length := by omega
      have HR := Lib.hid hbl
      clear hbl
      go_wp2_with fail
      go_ret
      exact ⟨rfl, HR.out⟩

def simV (c : Cir) (S I : List Bool) : List Bool := valsV (-1) false (stuckB (-1) false (false :: (I ++ S))) c.gates

def simN (c : Cir) (S I : List Bool) : List Bool := c.next.map (litB (simV c S I))

def simQ (c : Cir) (S I : List Bool) : List Bool := c.outs.map (litB (simV c S I))

def stS (c : Cir) (S : List Bool) (rows : List (List Bool)) : List Bool := rows.foldl (simN c) S

def outS (c : Cir) : List Bool → List (List Bool) → List (List Bool)
  | _, [] => []
  | S, I :: rs => simQ c S I :: outS c (simN c S I) rs

theorem outS_snoc (c : Cir) (I : List Bool) : ∀ (rows : List (List Bool)) (S : List Bool), outS c S (rows ++ [I]) = outS c S rows ++ [simQ c (stS c S rows) I]
  | [], _ => rfl
  | J :: rs, S => by
    show simQ c S J :: outS c (simN c S J) (rs ++ [I]) = _
    rw [outS_snoc c I rs (simN c S J)]; rfl

theorem stS_snoc (c : Cir) (I : List Bool) (rows : List (List Bool)) (S : List Bool) : stS c S (rows ++ [I]) = simN c (stS c S rows) I := by
  unfold stS; rw [List.foldl_append]; rfl

theorem outS_length (c : Cir) : ∀ (rows : List (List Bool)) (S : List Bool), (outS c S rows).length = rows.length
  | [], _ => rfl
  | J :: rs, S => by show (outS c (simN c S J) rs).length + 1 = _; rw [outS_length c rs]; rfl

theorem simN_length (c : Cir) (S I : List Bool) : (simN c S I).length = c.next.length := by simp [simN]

theorem simV_length {c : Cir} {S I : List Bool} {ni : Nat} (hi : c.inp = ni) (hS : S.length = c.next.length) (hI : I.length = ni) : ((simV c S I).length : Int) = c.vars := by
  unfold simV
  rw [valsV_length, stuckB_length, List.length_cons, List.length_append, hS, hI]
  unfold Cir.vars
  rw [hi]
  omega

theorem simV_bits {c : Cir} {ni : Nat} (hi : c.inp = ni) (s x : Int) : simV c (bitsV s c.next.length) (bitsV x ni) = cycV c s x := by
  unfold simV cycV stuckB
  rw [if_neg (by omega), hi, Int.toNat_natCast]

theorem simQ_bits {c : Cir} {ni : Nat} (hi : c.inp = ni) (s x : Int) : simQ c (bitsV s c.next.length) (bitsV x ni) = outsV c s x := by
  unfold simQ outsV; rw [simV_bits hi]

theorem simN_bits {c : Cir} {ni : Nat} (hi : c.inp = ni) (s x : Int) : simN c (bitsV s c.next.length) (bitsV x ni) = bitsV (nextN c s x) c.next.length := by
  unfold simN; rw [simV_bits hi, nextN_bits]

theorem outS_rows {c : Cir} {ni : Nat} (hi : c.inp = ni) : ∀ (xs : List Int) (s : Int), outS c (bitsV s c.next.length) (rowsX ni xs) = simS c s xs
  | [], _ => rfl
  | x :: xs, s => by
    show simQ c _ (bitsV x ni) :: outS c (simN c _ (bitsV x ni)) (rowsX ni xs) = outsV c s x :: simS c (nextN c s x) xs
    rw [simQ_bits hi, simN_bits hi, outS_rows hi xs]

theorem outS_zero {c : Cir} {ni : Nat} (hi : c.inp = ni) (xs : List Int) : outS c (List.replicate c.next.length false) (rowsX ni xs) = simS c 0 xs := by
  rw [← bitsV_zero, outS_rows hi]

theorem bitsV_mod (n : Nat) : ∀ (x : Int), bitsV (x % 2 ^ n) n = bitsV x n := by
  induction n with
  | zero => intro x; rfl
  | succ n ih =>
    intro x
    have h1 : (2 : Int) ^ (n + 1) = 2 * 2 ^ n := by rw [Int.pow_succ]; omega
    have h2 : x % (2 ^ (n + 1)) % 2 = x % 2 := Int.emod_emod_of_dvd x ⟨2 ^ n, h1⟩
    have h3 : x % (2 ^ (n + 1)) / 2 = x / 2 % 2 ^ n := by
      rw [h1]
      have hm : (0 : Int) < 2 ^ n := Int.pow_pos (by omega)
      generalize (2 : Int) ^ n = m at hm
      have e1 := Int.mul_ediv_add_emod (x / 2) m
      have e2 := Int.emod_nonneg (x / 2) (b := m) (by omega)
      have e3 := Int.emod_lt_of_pos (x / 2) hm
      have e4 : x = (2 * (x / 2 % m) + x % 2) + 2 * m * (x / 2 / m) := by
        rw [Int.mul_assoc]
        omega
      have e5 : x % (2 * m) = 2 * (x / 2 % m) + x % 2 := by
        conv => lhs; rw [e4]
        rw [Int.add_mul_emod_self_left, Int.emod_eq_of_lt (by omega) (by omega)]
      rw [e5]
      omega
    rw [bitsV_cons, bitsV_cons, h2, h3, ih]

/-- The inputs of a simulation by numbers of any size are those of their remainders. -/
theorem rowsX_mod (ni : Nat) (xs : List Int) : rowsX ni xs = rowsX ni (xs.map (· % 2 ^ ni)) := by
  unfold rowsX
  rw [List.map_map]
  apply List.map_congr_left
  intro x _
  exact (bitsV_mod ni x).symm

/-- No difference is found: all simulations agree. -/
theorem same_none {a b : Cir} {ni : Nat} (hc : cmpB a b = true) (hi : a.inp = ni) (h : disR a b = none) (xs : List Int) :
    outS a (List.replicate a.next.length false) (rowsX ni xs) = outS b (List.replicate b.next.length false) (rowsX ni xs) := by
  obtain ⟨-, -, e1, e3⟩ := cmpB_iff.1 hc
  rw [disR_yes hc] at h
  rw [rowsX_mod, outS_zero hi, outS_zero (by rw [← e1]; exact hi)]
  have hp : (0 : Int) < 2 ^ ni := Int.pow_pos (by omega)
  refine none_says e3 h (fun x hx => ?_)
  obtain ⟨y, -, rfl⟩ := List.mem_map.1 hx
  rw [hi, Int.toNat_natCast]
  have h1 := Int.emod_nonneg y (b := 2 ^ ni) (by omega)
  have h2 := Int.emod_lt_of_pos y hp
  push_cast
  exact ⟨h1, h2⟩

/-- A difference is found: the last rows differ, all others agree. -/
theorem same_some {a b : Cir} {ni : Nat} (hc : cmpB a b = true) (hi : a.inp = ni) {r : List Int} (h : disR a b = some r) :
    ∃ n, r.length = n + 1 ∧ (outS a (List.replicate a.next.length false) (rowsX ni r)).take n = (outS b (List.replicate b.next.length false) (rowsX ni r)).take n ∧ (outS a (List.replicate a.next.length false) (rowsX ni r))[n]? ≠ (outS b (List.replicate b.next.length false) (rowsX ni r))[n]? := by
  obtain ⟨-, -, e1, e3⟩ := cmpB_iff.1 hc
  rw [disR_yes hc] at h
  rw [outS_zero hi, outS_zero (c := b) (by rw [← e1]; exact hi)]
  obtain ⟨n, h1, -, h2, h3⟩ := dis_says e3 h
  exact ⟨n, h1, h2, h3⟩

set_option maxHeartbeats 400000 in
theorem bitsL_own (x : Int) (n : Nat) (w : World) (h0 : 0 ≤ x) (h1 : x ≤ 1000000) (hn : n ≤ 20) :
    Calls Try.prog 44 #[.int .i64 x, .int .i64 n] w fun e w' => ∃ s c, e = .returned (.slice s n c) ∧ w'.ownsRow w.heap.size 4 1 (.slice s n c) n (bools (bitsV x n)) ∧ Below w.heap.size w w' := by
  have hA : Below w.heap.size w (w.alloc (.cells #[] 4)) := (Below.refl _ _).alloc (Nat.le_refl _) _
  have ho : (w.alloc (.cells #[] 4)).ownsRow w.heap.size 4 1 (.slice (some ⟨w.heap.size, 0, none⟩) 0 0) 0 [] := own_of_blk (n := 0) (cur := #[]) (blk_new w _) (Nat.le_refl _) (by simp) (by unfold maxLen; omega)
  have HO := Lib.hid (And.intro ho hA)
  clear ho hA
  go_enter Try.func44, Try.ntmps44
  go_wp2
  revert HO
  generalize w.alloc (.cells #[] 4) = WA
  intro HO
  go_loopw [6, 5] (fun i v wr => ∃ (k : Nat) (s : Option Addr) (c : Nat), k ≤ n ∧ i = .int .i64 k ∧ v = .slice s k c ∧ wr.ownsRow w.heap.size 4 1 v k (bools (bitsV x k)) ∧ Below w.heap.size w wr) (fun i _ _ => n - (intOf i).toNat)
  case atStart => exact ⟨0, _, _, Nat.zero_le _, rfl, rfl, HO.out.1, HO.out.2⟩
  case round =>
    obtain ⟨k, so, c, hk, rfl, rfl, ho, hbl⟩ := hrel
    by_cases hlt : k < n
    · have hpw : (1 : Int) ≤ 2 ^ k := by have : (0 : Int) < 2 ^ k := Int.pow_pos (by decide); omega
      have q1 : 0 ≤ x / 2 ^ k := Int.ediv_nonneg h0 (by omega)
      have q2 : x / 2 ^ k ≤ 1000000 := Int.le_trans (Int.ediv_le_self _ h0) h1
      have hbs := hbl.size
      have HR := Lib.hid (And.intro ho (And.intro hbl hpw))
      clear ho hbl hpw
      go_wp2_with (at_builtin; refine wpl_app rfl _ _ rfl elem_bool (own_below HR.out.1 ((Below.refl _ _).alloc (Nat.le_refl _) _)) rfl rfl rfl (Sl.new _ _ _) (by simp [Value.oneCell']) (k + 1) rfl _ rfl (by unfold maxLen; omega) (by omega) (by simp; omega) ?_; intro s3 c3 w3 h3 hb3 _ _; have HA := Lib.hid (And.intro h3 hb3); clear h3 hb3)
      go_roundw
      case rel =>
        refine ⟨k + 1, s3, c3, by omega, by go_num, rfl, ?_, (HR.out.2.1.alloc hbs _).trans HA.out.2⟩
        have e := HA.out.1
        rw [bitsV_snoc]
        unfold bools at *
        rw [List.map_append]
        exact e
      case measure => simp [intOf]; omega
    · obtain rfl : k = n := by omega
      have HR := Lib.hid (And.intro ho hbl)
      clear ho hbl
      go_wp2
      go_ret
      exact ⟨_, _, rfl, HR.out.1, HR.out.2⟩

set_option maxHeartbeats 800000 in
theorem sameBoolsN_any (sa sb : Option Addr) (ca cb n : Nat) (xs ys : List Bool) (w : World) (ha : Sl w sa (bools xs)) (hb : Sl w sb (bools ys)) (lx : xs.length = n) (ly : ys.length = n) (hl : n ≤ 1000000) :
    Calls Try.prog 45 #[.slice sa n ca, .slice sb n cb] w fun e w' => e = .returned (.bool (decide (xs = ys))) ∧ Drew w w' := by
  have H := Lib.hid (And.intro ha (And.intro hb (And.intro lx ly)))
  clear ha hb lx ly
  go_enter Try.func45, Try.ntmps45
  go_upto_region 4 with fail
  go_loopw [5] (fun i wr => ∃ k : Nat, k ≤ n ∧ i = .int .i64 k ∧ xs.take k = ys.take k ∧ Drew w wr) (fun i _ => n - (intOf i).toNat)
  case atStart => exact ⟨0, Nat.zero_le _, rfl, rfl, 0, rfl⟩
  case round =>
    obtain ⟨k, hk, rfl, htk, hd⟩ := hrel
    by_cases hlt : k < n
    · obtain ⟨x, hx⟩ := get_of_lt (l := xs) (k := k) (by rw [H.out.2.2.1]; exact hlt)
      obtain ⟨y, hy⟩ := get_of_lt (l := ys) (k := k) (by rw [H.out.2.2.2]; exact hlt)
      obtain ⟨b1, o1, rfl, hb1, z1⟩ := H.out.1.bool (hd.below _) hx
      obtain ⟨b2, o2, rfl, hb2, z2⟩ := H.out.2.1.bool (hd.below _) hy
      have HD := Lib.hid (And.intro hd htk)
      have HE := Lib.hid (And.intro hx hy)
      clear hd hx hy htk
      by_cases e : x = y
      · subst e
        go_upto_region 6 with fail
        go_quiet (fail)
        go_wp2_with fail
        go_roundw
        case rel => exact ⟨k + 1, by omega, by go_num, by rw [List.take_add_one, List.take_add_one, HD.out.2, HE.out.1, HE.out.2], HD.out.1.n _⟩
        case measure => simp [intOf]; omega
      · have hne : (x != y) = true := by simpa using e
        have hf : decide (xs = ys) = false := by
          rw [decide_eq_false_iff_not]; intro he; have h1 := HE.out.1; rw [he, HE.out.2] at h1; exact e (by simpa using h1.symm)
        have HF := Lib.hid hf
        clear hf
        go_upto_region 6 with fail
        cases x <;> cases y <;> first
          | exact absurd rfl e
          | (go_quiet (fail)
             go_wp2_with fail
             go_ret
             exact ⟨ret_bool HF.out.symm, HD.out.1.n _⟩)
    · obtain rfl : n = k := by omega
      have ht : decide (xs = ys) = true := by
        rw [List.take_of_length_le (by rw [H.out.2.2.1]; exact Nat.le_refl _), List.take_of_length_le (by rw [H.out.2.2.2]; exact Nat.le_refl _)] at htk
        exact decide_eq_true htk
      have HD := Lib.hid (And.intro hd ht)
      clear hd ht htk
      go_wp2_with fail
      go_ret
      exact ⟨ret_bool HD.out.2.symm, HD.out.1⟩

theorem SlB.at' {w wr : World} {s : Option Addr} {rows : List (List Bool)} (h : SlB w s rows) (hbl : Below w.heap.size w wr) {n k : Nat} {r : List Bool} (hr : rows[k]? = some r) (hn : r.length = n) :
    ∃ b off si ci, s = some ⟨b, off, none⟩ ∧ wr.cell? ⟨b, off + k, none⟩ = some (.slice si n ci) ∧ Sl w si (bools r) := by
  subst hn
  obtain ⟨b, off, si, ci, h1, _, h2, h3⟩ := h.row hbl hr
  exact ⟨b, off, si, ci, h1, h2, h3⟩

set_option maxHeartbeats 800000 in
theorem sameRows_any (s t : Option Addr) (xs ys : List (List Bool)) (m cap cap2 n : Nat) (w : World) (hs : SlB w s xs) (ht : SlB w t ys) (lx : xs.length = m) (ly : ys.length = m) (hl : m ≤ 1000) (hr : ∀ r ∈ xs, r.length = n) (hr2 : ∀ r ∈ ys, r.length = n) (hn : n ≤ 1000) :
    Calls Try.prog 53 #[.slice s m cap, .slice t m cap2] w fun e w' => e = .returned (.bool (decide (xs = ys))) ∧ Drew w w' := by
  have HS : Hid ((SlB w s xs ∧ SlB w t ys) ∧ ((∀ r ∈ xs, r.length = n) ∧ ∀ r ∈ ys, r.length = n) ∧ xs.length = m ∧ ys.length = m) := ⟨⟨hs, ht⟩, ⟨hr, hr2⟩, lx, ly⟩
  clear hs ht hr hr2 lx ly
  go_enter Try.func53, Try.ntmps53
  go_wp2
  go_loopw [5] (fun i wr => ∃ k : Nat, k ≤ m ∧ i = .int .i64 k ∧ xs.take k = ys.take k ∧ Drew w wr) (fun i _ => m - (intOf i).toNat)
  case atStart => exact ⟨0, Nat.zero_le _, rfl, rfl, Drew.refl _⟩
  case round =>
    obtain ⟨k, hk, rfl, htk, hd⟩ := hrel
    have HT : Hid (xs.take k = ys.take k) := htk
    have HD := Lib.hid hd
    clear htk hd
    by_cases hlt : k < m
    · obtain ⟨x, hx⟩ := get_of_lt (l := xs) (k := k) (by have := HS.out; omega)
      obtain ⟨y, hy⟩ := get_of_lt (l := ys) (k := k) (by have := HS.out; omega)
      have hlx := HS.out.2.1.1 x (List.mem_of_getElem? hx)
      have hly := HS.out.2.1.2 y (List.mem_of_getElem? hy)
      obtain ⟨b, off, sx, cx, rfl, hz, hsx⟩ := HS.out.1.1.at' (HD.out.below _) hx hlx
      obtain ⟨b2, off2, sy, cy, rfl, hz2, hsy⟩ := HS.out.1.2.at' (HD.out.below _) hy hly
      have HX : ∀ m, Sl (wr.drewN m) sx (bools x) ∧ Sl (wr.drewN m) sy (bools y) := fun m => ⟨hsx.mono ((HD.out.n m).below _), hsy.mono ((HD.out.n m).below _)⟩
      have HR : Hid ((_ ∧ _) ∧ (x.length = n ∧ y.length = n) ∧ ∀ m, Sl (wr.drewN m) sx (bools x) ∧ Sl (wr.drewN m) sy (bools y)) := Lib.hid ⟨⟨hx, hy⟩, ⟨hlx, hly⟩, HX⟩
      clear hx hy hsx hsy HX hlx hly
      obtain ⟨q, hq⟩ : ∃ q, decide (x = y) = q := ⟨_, rfl⟩
      have HQ := Lib.hid hq
      have HSB : Hid (∀ m, Calls Try.prog 45 #[.slice sx n cx, .slice sy n cy] (wr.drewN m) fun e w' => e = .returned (.bool q) ∧ Drew (wr.drewN m) w') := fun m => by
        have h := sameBoolsN_any _ _ cx cy n _ _ _ (HR.out.2.2 m).1 (HR.out.2.2 m).2 HR.out.2.1.1 HR.out.2.1.2 (by omega)
        rw [hq] at h; exact h
      cases q
      · clear hq
        go_wp2_with fail
        go_quiet ((go_at_call 45; exact Calls.quiet_of (HSB.out _)))
        go_wp2
        go_ret
        refine ⟨ret_bool ?_, HD.out.n _⟩
        symm; rw [decide_eq_false_iff_not]; intro e
        have h1 := HR.out.1.1; have h2 := HR.out.1.2
        rw [e, h2] at h1
        have h3 := HQ.out
        rw [decide_eq_false_iff_not] at h3
        exact h3 (by simpa using h1.symm)
      · clear hq
        go_wp2_with fail
        go_quiet ((go_at_call 45; exact Calls.quiet_of (HSB.out _)))
        go_wp2
        go_roundw
        case rel => exact ⟨k + 1, by omega, by go_num, by rw [List.take_add_one, List.take_add_one, HT.out, HR.out.1.1, HR.out.1.2, of_decide_eq_true HQ.out], HD.out.n _⟩
        case measure => simp [intOf]; omega
    · obtain rfl : k = m := by omega
      have he : decide (xs = ys) = true := by
        have h1 := HT.out
        rw [List.take_of_length_le (by have := HS.out; omega), List.take_of_length_le (by have := HS.out; omega)] at h1
        simpa using h1
      have HE := Lib.hid he
      clear he
      go_wp2
      go_ret
      exact ⟨ret_bool HE.out.symm, HD.out⟩

end Go.Proofs.Ytbcolcchchgldaa
