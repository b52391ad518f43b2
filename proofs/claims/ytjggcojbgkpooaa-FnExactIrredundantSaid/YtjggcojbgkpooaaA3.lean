import Derived.Test.YtjggcojbgkpooaaA2
namespace Go.Proofs.Ytjggcojbgkpooaa
set_option linter.unusedVariables false
set_option linter.unusedSimpArgs false
open Go.RowKit

def litP (l v : Int) : Prop := 0 ≤ l ∧ l < 2 * v
instance (l v : Int) : Decidable (litP l v) := inferInstanceAs (Decidable (0 ≤ l ∧ l < 2 * v))
def Cir.first (c : Cir) : Int := 1 + c.inp + c.next.length
def Cir.vars (c : Cir) : Int := 1 + c.inp + c.next.length + c.gates.length
def Cir.limits (c : Cir) : Prop := 0 ≤ c.inp ∧ c.inp ≤ 4 ∧ c.next.length ≤ 3 ∧ c.gates.length ≤ 14 ∧ c.outs.length ≤ 3
instance (c : Cir) : Decidable c.limits := inferInstanceAs (Decidable (_ ∧ _))
def gatesP (first : Int) (gs : List Gt) : Prop := ∀ i (h : i < gs.length), litP (gs[i]).a (first + i) ∧ litP (gs[i]).b (first + i)
instance (first : Int) (gs : List Gt) : Decidable (gatesP first gs) := inferInstanceAs (Decidable (∀ i (h : i < gs.length), _))
def litsP (v : Int) (xs : List Int) : Prop := ∀ x ∈ xs, litP x v
instance (v : Int) (xs : List Int) : Decidable (litsP v xs) := inferInstanceAs (Decidable (∀ x ∈ xs, _))
structure Cir.valid (c : Cir) : Prop where
  lim : c.limits
  gates : gatesP c.first c.gates
  next : litsP c.vars c.next
  outs : litsP c.vars c.outs
def Cir.validB (c : Cir) : Bool := decide c.limits && (decide (gatesP c.first c.gates) && (decide (litsP c.vars c.next) && decide (litsP c.vars c.outs)))
theorem Cir.validB_iff (c : Cir) : c.validB = true ↔ c.valid := by
  unfold Cir.validB
  simp only [Bool.and_eq_true, decide_eq_true_eq]
  exact ⟨fun ⟨a, b, c, d⟩ => ⟨a, b, c, d⟩, fun ⟨a, b, c, d⟩ => ⟨a, b, c, d⟩⟩
theorem Cir.validB_false (c : Cir) : c.validB = false ↔ ¬ c.valid := by rw [← c.validB_iff]; simp

/-- A circuit as a value. -/
def CirV (w : World) (v : Value) (c : Cir) : Prop :=
  ∃ sn cn sg cg so co, v = .agg #[.int .i64 c.inp, .slice sn c.next.length cn, .slice sg c.gates.length cg, .slice so c.outs.length co] ∧
    Sl w sn (ints c.next) ∧ Sl w sg (gcells c.gates) ∧ Sl w so (ints c.outs) ∧ c.next.length ≤ 1048576 ∧ c.gates.length ≤ 1048576 ∧ c.outs.length ≤ 1048576

theorem CirV.mono {w w' : World} {v : Value} {c : Cir} (h : CirV w v c) (hb : Below w.heap.size w w') : CirV w' v c := by
  obtain ⟨sn, cn, sg, cg, so, co, hv, h1, h2, h3, h4⟩ := h
  exact ⟨sn, cn, sg, cg, so, co, hv, h1.mono hb, h2.mono hb, h3.mono hb, h4⟩

/-- The block that holds a circuit. -/
theorem CirAt.of_blk {w : World} {b : Nat} {inp : Int} {vn vg vo : Value} {t : TypeId} {fz : Nat × Nat} (h : w.heap[b]? = some (.cells #[.int .i64 inp, vn, vg, vo] t fz)) : CirAt w b inp vn vg vo :=
  ⟨blk_cell h, blk_cell h, blk_cell h, blk_cell h⟩

theorem ret_bool {a b : Bool} (h : a = b) : Ending.returned (.bool a) = .returned (.bool b) := by rw [h]
theorem gatesP_snoc {f : Int} {gs : List Gt} {k : Nat} {g : Gt} (h : gatesP f (gs.take k)) (hg : gs[k]? = some g) (h1 : litP g.a (f + k)) (h2 : litP g.b (f + k)) : gatesP f (gs.take (k + 1)) := by
  intro i hi
  have hlt : k < gs.length := (List.getElem?_eq_some_iff.1 hg).1
  obtain rfl : gs[k] = g := (List.getElem?_eq_some_iff.1 hg).2
  by_cases e : i = k
  · subst e; simpa using ⟨h1, h2⟩
  · have := h i (by simp at hi ⊢; omega)
    simpa using this
theorem gatesP_at {f : Int} {gs : List Gt} {k : Nat} {g : Gt} (h : gatesP f gs) (hg : gs[k]? = some g) : litP g.a (f + k) ∧ litP g.b (f + k) := by
  obtain ⟨hlt, rfl⟩ := List.getElem?_eq_some_iff.1 hg
  exact h k hlt

theorem ints_append (xs ys : List Int) : ints xs ++ ints ys = ints (xs ++ ys) := by simp [ints]
theorem litsP_snoc {v : Int} {xs : List Int} {k : Nat} {x : Int} (h : litsP v (xs.take k)) (hx : xs[k]? = some x) (h1 : litP x v) : litsP v (xs.take (k + 1)) := by
  rw [List.take_add_one, hx]
  intro y hy
  rcases List.mem_append.1 hy with hy | hy
  · exact h y hy
  · simp at hy; subst hy; exact h1

theorem CircuitValid_i (v : Value) (c : Cir) (w : World) (h : CirV w v c) :
    Calls Try.prog 47 #[v] w fun e w' => e = .returned (.bool c.validB) ∧ Below w.heap.size w w' := by
  obtain ⟨sn, cn, sg, cg, so, co, rfl, h1, h2, h3, hl1, hl2, hl3⟩ := h
  by_cases hlim : c.limits
  · obtain ⟨ha, hb, hc, hd, he⟩ := hlim
    go_enter Try.func47, Try.ntmps47
    go_wp2
    have HP : Hid (_ ∧ _ ∧ _ ∧ _ ∧ _ ∧ _) := Lib.hid ⟨h1, h2, h3, hc, hd, he⟩
    clear h1 h2 h3 hl1 hl2 hl3 he
    go_loopw [44] (fun i wr => ∃ k : Nat, k ≤ c.gates.length ∧ i = .int .i64 k ∧ gatesP c.first (c.gates.take k) ∧ wr.heap[w.heap.size]? = some (.cells #[.int .i64 c.inp, .slice sn c.next.length cn, .slice sg c.gates.length cg, .slice so c.outs.length co] 26 (0, 0)) ∧ Below w.heap.size w wr) (fun i _ => c.gates.length - (intOf i).toNat)
    case atStart => exact ⟨0, Nat.zero_le _, rfl, by intro i hi; simp at hi, blk_new _ _, (Below.refl _ _).alloc (Nat.le_refl _) _⟩
    case round =>
      obtain ⟨k, hk, rfl, hg, hbk, hbl⟩ := hrel
      by_cases hlt : k < c.gates.length
      · obtain ⟨g, hgk⟩ := get_of_lt hlt
        obtain ⟨b, off, rfl, hbw, hz1, hz2⟩ := HP.out.2.1.gate hbl hgk
        have HR : Hid (_ ∧ _ ∧ _ ∧ _ ∧ _) := Lib.hid ⟨hg, hbk, hbl, hgk, hbw⟩
        clear hg hbk hbl hgk hbw
        go_wp2_with (go_at_call 54; refine (isLit_any _ _ _ (by omega)).mono ?_; rintro e w' ⟨rfl, rfl⟩)
        all_goals obtain ⟨hg, hbk, hbl, hgk, hbw⟩ := HR.out
        all_goals first
          | (go_roundw
             case rel => exact ⟨k + 1, by omega, by go_num, gatesP_snoc hg hgk (by unfold litP Cir.first; simp at *; omega) (by unfold litP Cir.first; simp at *; omega), blk_old hbk, hbl.alloc hbl.size _⟩
             case measure => simp [intOf]; omega)
          | (go_ret
             refine ⟨ret_bool (c.validB_false.2 fun h => ?_).symm, hbl.alloc hbl.size _⟩
             have := gatesP_at h.gates hgk
             unfold litP Cir.first at this
             simp at *; omega)
      · obtain rfl : k = c.gates.length := by omega
        have hC := CirAt.of_blk hbk
        have hBs := blk_lt hbk
        have HR : Hid (_ ∧ _ ∧ _) := Lib.hid ⟨hg, hbk, hbl⟩
        clear hg hbk hbl
        go_wp2_with (go_at_call 84; refine (roots_any _ _ _ _ _ _ _ _ _ _ hC (HP.out.1.mono HR.out.2.2) (HP.out.2.2.1.mono HR.out.2.2) (by omega) (by have := HP.out.2.2.2.2.2; omega)).mono ?_; rintro e w1 ⟨s, cc, rfl, ho1, hb1⟩)
        rw [ints_append] at ho1
        have hs1 := own_sl ho1
        have hbk1 := blk_below hb1 hBs HR.out.2.1
        have HS : Hid (_ ∧ _ ∧ _ ∧ _) := Lib.hid ⟨hs1, hbk1, hb1, ho1⟩
        clear hs1 hbk1 hb1 ho1 hC hBs
        go_loopw [68] (fun i wr => ∃ k : Nat, k ≤ c.next.length + c.outs.length ∧ i = .int .i64 k ∧ litsP c.vars ((c.next ++ c.outs).take k) ∧ Below w1.heap.size w1 wr) (fun i _ => c.next.length + c.outs.length - (intOf i).toNat)
        case atStart => exact ⟨0, Nat.zero_le _, rfl, by intro i hi; simp at hi, Below.refl _ _⟩
        case round =>
          obtain ⟨k, hk, rfl, hg, hbl⟩ := hrel
          have he := HP.out.2.2.2.2.2
          have hC := CirAt.of_blk (blk_below hbl (blk_lt HS.out.2.1) HS.out.2.1)
          by_cases hlt : k < c.next.length + c.outs.length
          · obtain ⟨x, hx⟩ := get_of_lt (l := c.next ++ c.outs) (k := k) (by simp; omega)
            obtain ⟨b, off, rfl, hbw, hz1⟩ := HS.out.1.int hbl hx
            have HR2 : Hid (_ ∧ _ ∧ _) := Lib.hid ⟨hg, hbl, hx⟩
            clear hg hbl hx
            go_wp2_with (first
              | (go_at_call 48; refine (vars_any _ _ _ _ _ _ _ _ _ _ hC (by omega) (by omega) (by omega)).mono ?_; rintro e w' ⟨rfl, n, rfl⟩)
              | (go_at_call 54; refine (isLit_any _ _ _ (by omega)).mono ?_; rintro e w' ⟨rfl, rfl⟩))
            all_goals obtain ⟨hg, hbl, hx⟩ := HR2.out
            all_goals first
              | (go_roundw
                 case rel => exact ⟨k + 1, by omega, by go_num, litsP_snoc hg hx (by unfold litP Cir.vars; simp at *; omega), below_n hbl _⟩
                 case measure => simp [intOf]; omega)
              | (go_ret
                 refine ⟨ret_bool (c.validB_false.2 fun h => ?_).symm, (HR.out.2.2.trans (HS.out.2.2.1.mono HR.out.2.2.size)).trans (below_n (hbl.mono (by have := HS.out.2.2.1.size; have := HR.out.2.2.size; omega)) _)⟩
                 have := (List.mem_append.1 (List.mem_of_getElem? hx)).elim (h.next x) (h.outs x)
                 unfold litP Cir.vars at this
                 simp at *; omega)
          · obtain rfl : k = c.next.length + c.outs.length := by omega
            rw [List.take_of_length_le (by simp)] at hg
            have hv : c.validB = true := c.validB_iff.2 ⟨⟨ha, hb, hc, hd, he⟩, by simpa using HR.out.1, fun x hx => hg x (by simp [hx]), fun x hx => hg x (by simp [hx])⟩
            have HR2 : Hid (_ ∧ _) := Lib.hid ⟨hbl, hv⟩
            clear hbl hg hv
            go_wp2
            go_ret
            exact ⟨ret_bool HR2.out.2.symm, (HR.out.2.2.trans (HS.out.2.2.1.mono HR.out.2.2.size)).trans (HR2.out.1.mono (by have := HS.out.2.2.1.size; have := HR.out.2.2.size; omega))⟩
  · have hf : c.validB = false := c.validB_false.2 fun h => hlim h.1
    rw [hf]
    have H : Hid (¬ c.limits) := Lib.hid hlim
    clear hlim hf
    go_enter Try.func47, Try.ntmps47
    go_wp2
    all_goals first
      | (go_ret; exact ⟨rfl, (Below.refl _ _).alloc (Nat.le_refl _) _⟩)
      | (exfalso; refine H.out ⟨?_, ?_, ?_, ?_, ?_⟩ <;> omega)

end Go.Proofs.Ytjggcojbgkpooaa
