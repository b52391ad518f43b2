import Derived.Test.YtnifgamlmaembaaDoorTJ
namespace Go.Proofs.YtnifgamlmaembaaDoor
set_option linter.unusedVariables false
set_option linter.unusedSimpArgs false
open Go.RowKit

/-! Formatting and parsing are inverse: the plain law. -/

/-- Words, a blank ahead of each. -/
def blankT (ws : List Tx) : Tx := (ws.map fun x => 32 :: x).flatten
def joinT : List Tx → Tx
  | [] => []
  | x :: ws => x ++ blankT ws
theorem blankT_join (ws : List Tx) (h : 1 ≤ ws.length) : blankT ws = 32 :: joinT ws := by
  cases ws with
  | nil => simp at h
  | cons x ws => simp [blankT, joinT]
theorem join_fieldsG : ∀ (s p : Tx), joinT (fieldsG p s) = p ++ s
  | [], p => by simp [fieldsG, joinT, blankT]
  | c :: r, p => by
    unfold fieldsG
    by_cases h : c = 32
    · rw [if_pos h, h]
      show p ++ blankT (fieldsG [] r) = _
      rw [blankT_join _ (show 1 ≤ (fieldsG [] r).length from fieldsT_pos r), join_fieldsG r []]
      rfl
    · rw [if_neg h, join_fieldsG r (p ++ [c])]
      simp
theorem join_fields (s : Tx) : joinT (fieldsT s) = s := by
  unfold fieldsT; rw [join_fieldsG]; rfl
theorem fieldsG_word : ∀ (x p s : Tx), (∀ b ∈ x, b ≠ 32) → fieldsG p (x ++ s) = fieldsG (p ++ x) s
  | [], p, s, _ => by simp
  | c :: r, p, s, h => by
    show fieldsG p (c :: (r ++ s)) = _
    rw [fieldsG, if_neg (h c (by simp)), fieldsG_word r (p ++ [c]) s (fun b hb => h b (by simp [hb]))]
    simp
theorem dec_noblank {n : Nat} (h : n < 100) : ∀ b ∈ Lib.decDigits n, b ≠ 32 := by
  intro b hb e
  have := dec_dig h b hb
  subst e
  exact absurd this (by decide)
theorem fieldsG_part : ∀ (ns : List Nat) (p : Tx), (∀ n ∈ ns, n < 100) → fieldsG p (partT ns) = p :: ns.map Lib.decDigits
  | [], p, _ => rfl
  | n :: ns, p, h => by
    have e : partT (n :: ns) = 32 :: (Lib.decDigits n ++ partT ns) := by simp [partT]
    rw [e, fieldsG, if_pos rfl, fieldsG_word _ _ _ (dec_noblank (h n (by simp))), List.nil_append, fieldsG_part ns _ (fun m hm => h m (by simp [hm]))]
    rfl
theorem fields_line {wd : Tx} {ns : List Nat} (hw : ∀ b ∈ wd, b ≠ 32) (hn : ∀ n ∈ ns, n < 100) : fieldsT (lineT wd ns) = wd :: ns.map Lib.decDigits := by
  unfold fieldsT lineT
  rw [fieldsG_word _ _ _ hw, List.nil_append, fieldsG_part ns wd hn]

/-- The word of a kind. -/
def wordK (k : Int) : Tx := if k = 0 then inputsW else if k = 1 then latchW else if k = 2 then gateW else outW
theorem wordK_facts (k : Int) : (∀ b ∈ wordK k, b ≠ 32) ∧ (wordK k).length ≤ 6 := by
  unfold wordK
  split
  · decide
  · split
    · decide
    · split <;> decide
theorem kind_word {k : Int} (h0 : 0 ≤ k) (h3 : k ≤ 3) : kindT (wordK k) = k := by
  have : k = 0 ∨ k = 1 ∨ k = 2 ∨ k = 3 := by omega
  rcases this with rfl | rfl | rfl | rfl <;> decide
theorem word_kind {x : Tx} (h : 0 ≤ kindT x) : wordK (kindT x) = x := by
  unfold kindT at h ⊢
  by_cases h1 : x = inputsW
  · rw [if_pos h1, h1]; rfl
  · rw [if_neg h1] at h ⊢
    by_cases h2 : x = latchW
    · rw [if_pos h2, h2]; rfl
    · rw [if_neg h2] at h ⊢
      by_cases h3 : x = gateW
      · rw [if_pos h3, h3]; rfl
      · rw [if_neg h3] at h ⊢
        by_cases h4 : x = outW
        · rw [if_pos h4, h4]; rfl
        · rw [if_neg h4] at h; omega

theorem numP_decs {ns : List Nat} (h : ∀ n ∈ ns, n < 100) : (ns.map Lib.decDigits).map numP = nats ns := by
  unfold nats
  rw [List.map_map]
  exact List.map_congr_left fun n hn => numP_dec (h n hn)

/-- A formatted line fits. -/
theorem line_ok {i : Nat} {part k : Int} {ns : List Nat} (h0 : 0 ≤ k) (h3 : k ≤ 3) (hl : ns.length = wantK k) (hn : ∀ n ∈ ns, n < 100) (hi : k = 0 ↔ i = 0) (hp : part ≤ k) :
    lineOk i part (lineT (wordK k) ns) ∧ kindL (lineT (wordK k) ns) = k ∧ argsL (lineT (wordK k) ns) = nats ns := by
  obtain ⟨w1, w2⟩ := wordK_facts k
  have hf := fields_line (wd := wordK k) w1 hn
  have hk : kindL (lineT (wordK k) ns) = k := by
    unfold kindL; rw [hf]; exact kind_word h0 h3
  have ha : argsW (lineT (wordK k) ns) = ns.map Lib.decDigits := by
    unfold argsW; rw [hf]; rfl
  have ha2 : argsL (lineT (wordK k) ns) = nats ns := by
    unfold argsL; rw [ha]; exact numP_decs hn
  refine ⟨⟨?_, by rw [hk]; exact h0, ?_, by rw [ha, hk, List.length_map]; exact hl, by rw [hk]; exact hi, by rw [hk]; exact hp⟩, hk, ha2⟩
  · have h1 := partT_len hn ns.length
    rw [List.take_length] at h1
    have h2 : ns.length ≤ 2 := by rw [hl]; unfold wantK; split <;> omega
    unfold lineT
    rw [List.length_append]
    omega
  · rw [ha]
    unfold numsB
    rw [List.all_eq_true]
    intro x hx
    obtain ⟨n, hm, rfl⟩ := List.mem_map.1 hx
    rw [numP_dec (hn n hm)]
    exact decide_eq_true (by omega)

/-- A line that fits is a formatted one. -/
theorem ok_line {i : Nat} {part : Int} {l : Tx} (h : lineOk i part l) : ∃ ns : List Nat, l = lineT (wordK (kindL l)) ns ∧ argsL l = nats ns ∧ ns.length = wantK (kindL l) ∧ ∀ n ∈ ns, n < 100 := by
  obtain ⟨-, h1, h2, h3, -, -⟩ := h
  have key : ∀ ws : List Tx, numsB ws = true → ∃ ns : List Nat, ws = ns.map Lib.decDigits ∧ ∀ n ∈ ns, n < 100 := by
    intro ws
    induction ws with
    | nil => intro _; exact ⟨[], rfl, by simp⟩
    | cons x ws ih =>
      intro hb
      unfold numsB at hb
      rw [List.all_cons, Bool.and_eq_true] at hb
      obtain ⟨ns, rfl, hns⟩ := ih hb.2
      obtain ⟨n, -, hn, rfl⟩ := numP_inv (of_decide_eq_true hb.1)
      refine ⟨n :: ns, rfl, fun m hm => ?_⟩
      rcases List.mem_cons.1 hm with rfl | hm
      · exact hn
      · exact hns m hm
  obtain ⟨ns, he, hns⟩ := key _ h2
  refine ⟨ns, ?_, ?_, by rw [← h3, he, List.length_map], hns⟩
  · have hj := join_fields l
    unfold kindL at h1 ⊢
    unfold argsW at he
    revert hj h1 he
    have hp := fieldsT_pos l
    revert hp
    generalize fieldsT l = fs
    intro hp h1 he hj
    cases fs with
    | nil => simp at hp
    | cons x ws =>
      change 0 ≤ kindT x at h1
      change ws = _ at he
      change l = lineT (wordK (kindT x)) ns
      rw [word_kind h1, ← hj, he]
      show x ++ blankT _ = x ++ partT ns
      unfold blankT partT
      rw [List.map_map]
      rfl
  · unfold argsL; rw [he]; exact numP_decs hns

theorem nxT_all (c : Cir) : nxT c c.next.length = c.next.map fun l => lineT latchW [l.toNat] := by unfold nxT; rw [List.take_length]
theorem gtT_all (c : Cir) : gtT c c.gates.length = c.gates.map fun g => lineT gateW [g.a.toNat, g.b.toNat] := by unfold gtT; rw [List.take_length]
theorem otT_all (c : Cir) : otT c c.outs.length = c.outs.map fun l => lineT outW [l.toNat] := by unfold otT; rw [List.take_length]
theorem fmtC_all (c : Cir) : fmtC c = (([lineT inputsW [c.inp.toNat]] ++ c.next.map fun l => lineT latchW [l.toNat]) ++ c.gates.map fun g => lineT gateW [g.a.toNat, g.b.toNat]) ++ c.outs.map fun l => lineT outW [l.toNat] := by
  unfold fmtC; rw [nxT_all, gtT_all, otT_all]

theorem kindL_le (l : Tx) : kindL l ≤ 3 := by
  unfold kindL
  rcases kindT_cases ((fieldsT l).headD []) with h | h | h | h | h <;> omega

/-- The lines behind which a circuit stands are its format. -/
theorem Pr.fmt {ls : List Tx} {k : Nat} {p : Int} {c : Cir} (h : Pr ls k p c) :
    (k = 0 ∧ c = c0) ∨ (0 < k ∧ ls.take k = fmtC c ∧ 0 ≤ p ∧ (p ≤ 0 → c.next = []) ∧ (p ≤ 1 → c.gates = []) ∧ (p ≤ 2 → c.outs = [])) := by
  induction h with
  | nil => exact .inl ⟨rfl, rfl⟩
  | step h hl ho ih =>
    rename_i k part c l
    right
    obtain ⟨ns, e1, e2, e3, e4⟩ := ok_line ho
    obtain ⟨-, q0, -, -, q1, q2⟩ := ho
    have q3 := kindL_le l
    have ht : ls.take (k + 1) = ls.take k ++ [l] := by rw [List.take_add_one, hl]; rfl
    refine ⟨by omega, ?_⟩
    rw [ht, e2]
    revert e1 e3 q0 q1 q2 q3
    generalize kindL l = q
    intro e1 e3 q0 q1 q2 q3
    have hq : q = 0 ∨ q = 1 ∨ q = 2 ∨ q = 3 := by omega
    rcases hq with rfl | rfl | rfl | rfl
    · obtain ⟨n, rfl⟩ : ∃ n, ns = [n] := by
        match ns, e3 with
        | [n], _ => exact ⟨n, rfl⟩
      obtain rfl : k = 0 := q1.1 rfl
      rcases ih with ⟨-, rfl⟩ | ⟨h, -⟩
      · rw [e1, fmtC_all]
        exact ⟨by simp [addP, c0, nats, wordK], by omega, fun _ => rfl, fun _ => rfl, fun _ => rfl⟩
      · omega
    · obtain ⟨n, rfl⟩ : ∃ n, ns = [n] := by
        match ns, e3 with
        | [n], _ => exact ⟨n, rfl⟩
      rcases ih with ⟨hk, -⟩ | ⟨-, a, b, d, e, f⟩
      · have := q1.2 hk; omega
      · have e' := e q2
        have f' := f (by omega)
        rw [e1, a, fmtC_all, fmtC_all]
        exact ⟨by simp [addP, nats, wordK, e', f'], by omega, fun h => by omega, fun _ => e', fun _ => f'⟩
    · obtain ⟨n, m, rfl⟩ : ∃ n m, ns = [n, m] := by
        match ns, e3 with
        | [n, m], _ => exact ⟨n, m, rfl⟩
      rcases ih with ⟨hk, -⟩ | ⟨-, a, b, d, e, f⟩
      · have := q1.2 hk; omega
      · have f' := f q2
        rw [e1, a, fmtC_all, fmtC_all]
        exact ⟨by simp [addP, nats, wordK, f'], by omega, fun h => by omega, fun h => by omega, fun _ => f'⟩
    · obtain ⟨n, rfl⟩ : ∃ n, ns = [n] := by
        match ns, e3 with
        | [n], _ => exact ⟨n, rfl⟩
      rcases ih with ⟨hk, -⟩ | ⟨-, a, b, d, e, f⟩
      · have := q1.2 hk; omega
      · rw [e1, a, fmtC_all, fmtC_all]
        exact ⟨by simp [addP, nats, wordK], by omega, fun h => by omega, fun h => by omega, fun h => by omega⟩

/-- An accepted text is the format of its circuit. -/
theorem PR.accepted {ls : List Tx} {D : Cir} (h : PR ls D 0) : D.validB = true ∧ fmtR D = ls := by
  rcases h with ⟨k, part, c, l, -, -, -, -, hn⟩ | ⟨part, c, h1, ⟨-, -, hn⟩ | ⟨h0, hv, rfl, -⟩⟩
  · omega
  · omega
  · refine ⟨hv, ?_⟩
    unfold fmtR
    rw [hv, if_pos rfl]
    rcases h1.fmt with ⟨h, -⟩ | ⟨-, h, -⟩
    · omega
    · rw [← h, List.take_length]
/-- A rejected text: the number of a line, or one more. -/
theorem PR.rejected {ls : List Tx} {D : Cir} {n : Int} (h : PR ls D n) (hn : n ≠ 0) : 1 ≤ n ∧ n ≤ (ls.length : Int) + 1 ∧ D = c0 := by
  rcases h with ⟨k, part, c, l, -, hl, -, rfl, rfl⟩ | ⟨part, c, -, ⟨-, rfl, rfl⟩ | ⟨-, -, -, rfl⟩⟩
  · have := (List.getElem?_eq_some_iff.1 hl).1
    exact ⟨by omega, by omega, rfl⟩
  · exact ⟨by omega, by omega, rfl⟩
  · exact absurd rfl hn
theorem PR.range {ls : List Tx} {D : Cir} {n : Int} (h : PR ls D n) : 0 ≤ n ∧ n ≤ (ls.length : Int) + 1 := by
  by_cases hn : n = 0
  · omega
  · have := h.rejected hn; omega

theorem Pr.app {A : List Tx} {k : Nat} {p : Int} {c : Cir} (h : Pr A k p c) (l : Tx) : Pr (A ++ [l]) k p c := by
  induction h with
  | nil => exact .nil
  | step h hl ho ih =>
    refine .step ih ?_ ho
    rw [List.getElem?_append_left (List.getElem?_eq_some_iff.1 hl).1]
    exact hl
theorem Pr.snoc {A : List Tx} {p : Int} {c : Cir} {l : Tx} (h : Pr A A.length p c) (ho : lineOk A.length p l) : Pr (A ++ [l]) (A ++ [l]).length (kindL l) (addP (kindL l) (argsL l) c) := by
  rw [List.length_append]
  exact .step (h.app l) (by simp) ho
/-- One more formatted line. -/
theorem Pr.line {A : List Tx} {p k : Int} {c : Cir} {ns : List Nat} (h : Pr A A.length p c) (h0 : 0 ≤ k) (h3 : k ≤ 3) (hl : ns.length = wantK k) (hn : ∀ n ∈ ns, n < 100) (hi : k = 0 ↔ A.length = 0) (hp : p ≤ k) :
    Pr (A ++ [lineT (wordK k) ns]) (A ++ [lineT (wordK k) ns]).length k (addP k (nats ns) c) := by
  obtain ⟨a, b, d⟩ := line_ok (i := A.length) h0 h3 hl hn hi hp
  have := h.snoc a
  rw [b, d] at this
  exact this

theorem take_all {α : Type} {l : List α} {n : Nat} (h : n = l.length) : l.take n = l := by rw [h, List.take_length]

/-- Parsing the format of a valid circuit returns it. -/
theorem PR.format {c : Cir} (hv : c.validB = true) : PR (fmtR c) c 0 := by
  have hval := c.validB_iff.1 hv
  obtain ⟨l1, l2, l3, l4, l5⟩ := id hval.lim
  obtain ⟨f1, f2, f3, f4⟩ := valid_first hval
  obtain ⟨I, hI⟩ : ∃ I : Nat, c.inp = I := ⟨c.inp.toNat, by omega⟩
  have hnx : ∀ x ∈ c.next, ∃ m : Nat, x = m ∧ m < 100 := fun x hx => by have := hval.next x hx; unfold litP at this; exact ⟨x.toNat, by omega, by omega⟩
  have hox : ∀ x ∈ c.outs, ∃ m : Nat, x = m ∧ m < 100 := fun x hx => by have := hval.outs x hx; unfold litP at this; exact ⟨x.toNat, by omega, by omega⟩
  have hgx : ∀ g ∈ c.gates, (∃ m : Nat, g.a = m ∧ m < 100) ∧ (∃ m : Nat, g.b = m ∧ m < 100) := fun g hg => by
    obtain ⟨i, hi, rfl⟩ := List.getElem_of_mem hg
    have := hval.gates i hi
    unfold litP at this
    exact ⟨⟨(c.gates[i]).a.toNat, by omega, by omega⟩, ⟨(c.gates[i]).b.toNat, by omega, by omega⟩⟩
  have s0 : Pr [lineT inputsW [I]] [lineT inputsW [I]].length 0 ⟨I, [], [], []⟩ :=
    Pr.line (A := []) (k := 0) (ns := [I]) .nil (by omega) (by omega) rfl (by simp; omega) (by simp) (by omega)
  have s1 : ∀ k, k ≤ c.next.length → ∃ p, p ≤ 1 ∧ Pr ([lineT inputsW [I]] ++ nxT c k) ([lineT inputsW [I]] ++ nxT c k).length p ⟨I, c.next.take k, [], []⟩ := by
    intro k
    induction k with
    | zero => intro _; exact ⟨0, by omega, s0⟩
    | succ k ih =>
      intro hk
      obtain ⟨p, hp, hpr⟩ := ih (by omega)
      obtain ⟨x, hx⟩ := get_of_lt (l := c.next) (k := k) (by omega)
      obtain ⟨m, rfl, hm⟩ := hnx x (List.mem_of_getElem? hx)
      have := hpr.line (k := 1) (ns := [m]) (by omega) (by omega) rfl (by simp; omega) (by simp) hp
      rw [nxT_snoc hx, ← List.append_assoc]
      refine ⟨1, by omega, ?_⟩
      rw [List.take_add_one, hx]
      exact this
  have s2 : ∀ k, k ≤ c.gates.length → ∃ p, p ≤ 2 ∧ Pr ([lineT inputsW [I]] ++ nxT c c.next.length ++ gtT c k) ([lineT inputsW [I]] ++ nxT c c.next.length ++ gtT c k).length p ⟨I, c.next, c.gates.take k, []⟩ := by
    intro k
    induction k with
    | zero =>
      intro _
      obtain ⟨p, hp, h⟩ := s1 c.next.length (Nat.le_refl _)
      rw [List.take_length] at h
      refine ⟨p, by omega, ?_⟩
      have e : gtT c 0 = [] := rfl
      rw [e, List.append_nil]
      exact h
    | succ k ih =>
      intro hk
      obtain ⟨p, hp, hpr⟩ := ih (by omega)
      obtain ⟨g, hx⟩ := get_of_lt (l := c.gates) (k := k) (by omega)
      obtain ⟨⟨m, hm, hm1⟩, ⟨m', hm', hm1'⟩⟩ := hgx g (List.mem_of_getElem? hx)
      have := hpr.line (k := 2) (ns := [m, m']) (by omega) (by omega) rfl (by simp; omega) (by simp) hp
      rw [gtT_snoc hx, ← List.append_assoc, hm, hm']
      refine ⟨2, by omega, ?_⟩
      rw [List.take_add_one, hx]
      have e : g = ⟨m, m'⟩ := by cases g; simp_all
      rw [e]
      exact this
  have s3 : ∀ k, k ≤ c.outs.length → ∃ p, p ≤ 3 ∧ Pr ([lineT inputsW [I]] ++ nxT c c.next.length ++ gtT c c.gates.length ++ otT c k) ([lineT inputsW [I]] ++ nxT c c.next.length ++ gtT c c.gates.length ++ otT c k).length p ⟨I, c.next, c.gates, c.outs.take k⟩ := by
    intro k
    induction k with
    | zero =>
      intro _
      obtain ⟨p, hp, h⟩ := s2 c.gates.length (Nat.le_refl _)
      rw [List.take_length] at h
      refine ⟨p, by omega, ?_⟩
      have e : otT c 0 = [] := rfl
      rw [e, List.append_nil]
      exact h
    | succ k ih =>
      intro hk
      obtain ⟨p, hp, hpr⟩ := ih (by omega)
      obtain ⟨x, hx⟩ := get_of_lt (l := c.outs) (k := k) (by omega)
      obtain ⟨m, rfl, hm⟩ := hox x (List.mem_of_getElem? hx)
      have := hpr.line (k := 3) (ns := [m]) (by omega) (by omega) rfl (by simp; omega) (by simp) hp
      rw [otT_snoc hx, ← List.append_assoc]
      refine ⟨3, by omega, ?_⟩
      rw [List.take_add_one, hx]
      exact this
  obtain ⟨p, -, h⟩ := s3 c.outs.length (Nat.le_refl _)
  rw [List.take_length] at h
  have e : fmtR c = [lineT inputsW [I]] ++ nxT c c.next.length ++ gtT c c.gates.length ++ otT c c.outs.length := by
    unfold fmtR fmtC; rw [hv, if_pos rfl, hI]; rfl
  rw [← e, ← hI] at h
  refine .inr ⟨p, c, h, .inr ⟨?_, hv, rfl, rfl⟩⟩
  rw [e]; simp

end Go.Proofs.YtnifgamlmaembaaDoor
