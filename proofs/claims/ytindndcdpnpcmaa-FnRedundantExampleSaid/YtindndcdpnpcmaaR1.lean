import Derived.Test.YtindndcdpnpcmaaP2
import Derived.Test.YtindndcdpnpcmaaA4
import Derived.Test.YtindndcdpnpcmaaM1
import Derived.Test.YtindndcdpnpcmaaL4
import Derived.Test.YtindndcdpnpcmaaQ1
namespace Go.Proofs.Ytindndcdpnpcmaa
set_option linter.unusedVariables false
set_option linter.unusedSimpArgs false
open Go.RowKit

/-! Tseitin, both. -/

theorem elem_rows : ElemOf Try.prog 85 22 (.slice none 0 0) 1 24 :=
  ⟨by kernel_rfl, info_parts (by kernel_rfl), rfl, by omega⟩
theorem RowsAt.add {w wD w2 : World} {base : Nat} {v v' : Value} {bs : List Nat} {rows : List (List Int)} (h : RowsAt w base v bs rows) (hD : Below w.heap.size w wD) (nb : List Nat) (nr : List (List Int)) (hl : nb.length = nr.length)
    (hn : ∀ (i b : Nat) (r : List Int), nb[i]? = some b → nr[i]? = some r → wD.heap[b]? = some (.cells (ints r).toArray 3 (0, 0)) ∧ w.heap.size ≤ b) (hi : nb.Pairwise (· < ·)) (hbase : base ≤ w.heap.size)
    (hg : wD.grownBy w2 v.ownBlock) (ho : w2.ownsRow base 22 1 v' (rows.length + nr.length) (rowVs bs rows ++ rowVs nb nr)) : RowsAt w2 base v' (bs ++ nb) (rows ++ nr) := by
  refine (h.below hD).push hl (fun i b r h1 h2 => ⟨(hn i b r h1 h2).1, Nat.le_trans hbase (hn i b r h1 h2).2⟩) (pw_append h.inc hi w.heap.size (fun b hb => (h.lt hb).2) (fun b hb => ?_)) hg ho
  obtain ⟨i, hi⟩ := List.mem_iff_getElem?.1 hb
  obtain ⟨r, hr⟩ := get_of_lt (l := nr) (k := i) (by rw [← hl]; exact (List.getElem?_eq_some_iff.1 hi).1)
  exact (hn i b r hi hr).2

def dimL (l : Int) : Int := if l % 2 = 1 then -(l / 2 + 1) else l / 2 + 1
theorem dimL_bd {l : Int} (h0 : 0 ≤ l) (h1 : l / 2 < 30) : -30 ≤ dimL l ∧ dimL l ≤ 30 := by unfold dimL; split <;> omega
def gRows (n : Int) (g : Gt) : List (List Int) := [[-n, dimL g.a], [-n, dimL g.b], [n, -dimL g.a, -dimL g.b]]
def tsL (c : Cir) : Nat → List (List Int)
  | 0 => [[-1]]
  | k + 1 => tsL c k ++ gRows (c.first + k + 1) (c.gates.getD k ⟨0, 0⟩)
theorem tsL_len (c : Cir) (k : Nat) : (tsL c k).length = 1 + 3 * k := by
  induction k with
  | zero => rfl
  | succ k ih => unfold tsL; rw [List.length_append, ih]; simp [gRows]; omega
theorem tsL_succ {c : Cir} {k : Nat} {g : Gt} (h : c.gates[k]? = some g) {n : Int} (hn : n = c.first + k + 1) : tsL c (k + 1) = tsL c k ++ gRows n g := by
  rw [hn]
  show tsL c k ++ gRows (c.first + k + 1) (c.gates.getD k ⟨0, 0⟩) = _
  rw [List.getD_eq_getElem?_getD, h]; rfl
theorem gRows_small (n : Int) (g : Gt) : ∀ r ∈ gRows n g, r.length ≤ 3 := by
  intro r hr; simp [gRows] at hr; rcases hr with rfl | rfl | rfl <;> simp
theorem tsL_small (c : Cir) (k : Nat) : ∀ r ∈ tsL c k, r.length ≤ 3 := by
  induction k with
  | zero => intro r hr; simp [tsL] at hr; subst hr; simp
  | succ k ih =>
    intro r hr
    unfold tsL at hr
    rcases List.mem_append.1 hr with h | h
    · exact ih r h
    · exact gRows_small _ _ r h
def tsOk (c : Cir) (l : Int) : Prop := c.validB = true ∧ litP l c.vars
instance (c : Cir) (l : Int) : Decidable (tsOk c l) := inferInstanceAs (Decidable (_ ∧ _))
def tsR (c : Cir) (l : Int) : List (List Int) := if tsOk c l then tsL c c.gates.length ++ [[dimL l]] else []
theorem tsR_no {c : Cir} {l : Int} (h : ¬ tsOk c l) : tsR c l = [] := by unfold tsR; rw [if_neg h]
theorem tsR_yes {c : Cir} {l : Int} (h : tsOk c l) : tsR c l = tsL c c.gates.length ++ [[dimL l]] := by unfold tsR; rw [if_pos h]
theorem tsR_small (c : Cir) (l : Int) : (tsR c l).length ≤ 44 ∧ ∀ r ∈ tsR c l, r.length ≤ 3 := by
  by_cases h : tsOk c l
  · have hv := c.validB_iff.1 h.1
    obtain ⟨f1, f2, f3, f4⟩ := valid_first hv
    rw [tsR_yes h]
    refine ⟨by rw [List.length_append, tsL_len]; simp; omega, fun r hr => ?_⟩
    rcases List.mem_append.1 hr with h | h
    · exact tsL_small _ _ r h
    · simp at h; subst h; simp
  · rw [tsR_no h]; simp

theorem dimacs_any (l : Int) (w : World) (h0 : 0 ≤ l) (h1 : l ≤ 1000000) :
    Calls Try.prog 123 #[.int .i64 l] w fun e w' => e = .returned (.int .i64 (dimL l)) ∧ Drew w w' := by
  have hand := i64_and1 l
  by_cases h : l % 2 = 1
  · have e : dimL l = -(l / 2 + 1) := by unfold dimL; rw [if_pos h]
    have HE := Lib.hid e
    clear e
    go_enter Try.func123, Try.ntmps123
    go_wp2
    go_ret
    exact ⟨ret_int (by rw [HE.out]), Drew.refl _⟩
  · have e : dimL l = l / 2 + 1 := by unfold dimL; rw [if_neg h]
    have HE := Lib.hid e
    clear e
    go_enter Try.func123, Try.ntmps123
    go_wp2
    all_goals first
      | (exfalso; omega)
      | (go_ret; exact ⟨ret_int HE.out.symm, Drew.refl _⟩)

theorem dimacs_eq (l : Int) (w : World) (h0 : 0 ≤ l) (h1 : l ≤ 1000000) :
    Calls Try.prog 123 #[.int .i64 l] w fun e w' => e = .returned (.int .i64 (dimL l)) ∧ w = w' := by
  have hand := i64_and1 l
  by_cases h : l % 2 = 1
  · have e : dimL l = -(l / 2 + 1) := by unfold dimL; rw [if_pos h]
    have HE := Lib.hid e
    clear e
    go_enter Try.func123, Try.ntmps123
    go_wp2
    go_ret
    exact ⟨ret_int (by rw [HE.out]), rfl⟩
  · have e : dimL l = l / 2 + 1 := by unfold dimL; rw [if_neg h]
    have HE := Lib.hid e
    clear e
    go_enter Try.func123, Try.ntmps123
    go_wp2
    all_goals first
      | (exfalso; omega)
      | (go_ret; exact ⟨ret_int HE.out.symm, rfl⟩)

theorem Sl.new4 (w : World) (A B C : Obj) (cs : Array Value) (t : TypeId) : Sl ((((w.alloc A).alloc B).alloc C).alloc (.cells cs t)) (some ⟨w.heap.size + 1 + 1 + 1, 0, none⟩) cs.toList := Sl.blk (blk_at (by simp))
theorem Sl.new2 (w : World) (A : Obj) (cs : Array Value) (t : TypeId) : Sl ((w.alloc A).alloc (.cells cs t)) (some ⟨w.heap.size + 1, 0, none⟩) cs.toList := Sl.blk (blk_at (by simp))
theorem rows3 {w : World} {x1 y1 x2 y2 x3 y3 z3 : Int} {D : Obj} : ∀ (i b : Nat) (r : List Int), [w.heap.size, w.heap.size + 1, w.heap.size + 2][i]? = some b → [[x1, y1], [x2, y2], [x3, y3, z3]][i]? = some r →
    ((((w.alloc (.cells #[.int .i64 x1, .int .i64 y1] 3)).alloc (.cells #[.int .i64 x2, .int .i64 y2] 3)).alloc (.cells #[.int .i64 x3, .int .i64 y3, .int .i64 z3] 3)).alloc D).heap[b]? = some (.cells (ints r).toArray 3 (0, 0)) ∧ w.heap.size ≤ b := by
  have h := blk3 w (.cells #[.int .i64 x1, .int .i64 y1] 3) (.cells #[.int .i64 x2, .int .i64 y2] 3) (.cells #[.int .i64 x3, .int .i64 y3, .int .i64 z3] 3)
  intro i b r h1 h2
  match i, h1, h2 with
  | 0, h1, h2 => simp at h1 h2; subst h1 h2; exact ⟨blk_old h.1, Nat.le_refl _⟩
  | 1, h1, h2 => simp at h1 h2; subst h1 h2; exact ⟨blk_old h.2.1, by omega⟩
  | 2, h1, h2 => simp at h1 h2; subst h1 h2; exact ⟨blk_old h.2.2.1, by omega⟩
  | i + 3, h1, h2 => simp at h1
theorem rows1 {w : World} {x : Int} {D : Obj} : ∀ (i b : Nat) (r : List Int), [w.heap.size][i]? = some b → [[x]][i]? = some r →
    ((w.alloc (.cells #[.int .i64 x] 3)).alloc D).heap[b]? = some (.cells (ints r).toArray 3 (0, 0)) ∧ w.heap.size ≤ b := by
  intro i b r h1 h2
  match i, h1, h2 with
  | 0, h1, h2 => simp at h1 h2; subst h1 h2; exact ⟨blk_old (blk_new _ _), Nat.le_refl _⟩
  | i + 1, h1, h2 => simp at h1

set_option maxRecDepth 100000 in
set_option maxHeartbeats 1600000 in
theorem Tseitin_i (v : Value) (c : Cir) (l : Int) (w : World) (h : CirV w v c) (hl : -9223372036854775808 ≤ l ∧ l ≤ 9223372036854775807) :
    Calls Try.prog 84 #[v, .int .i64 l] w fun e w' => ∃ s cap bs, e = .returned (.slice s (tsR c l).length cap) ∧ RowsAt w' w.heap.size (.slice s (tsR c l).length cap) bs (tsR c l) ∧ Below w.heap.size w w' := by
  have HC : Hid (∀ w', Below w.heap.size w w' → CirV w' v c) := fun w' hb => h.mono hb
  obtain ⟨sn, cn, sg, cg, so, co, rfl, h1, h2, h3, hl1, hl2, hl3⟩ := h
  have hL : Below w.heap.size w (w.alloc (.cells #[.int .i64 c.inp, .slice sn c.next.length cn, .slice sg c.gates.length cg, .slice so c.outs.length co] 29)) := by go_grown
  have hN := blk_new w (.cells #[.int .i64 c.inp, .slice sn c.next.length cn, .slice sg c.gates.length cg, .slice so c.outs.length co] 29)
  have HL := Lib.hid (And.intro hL (And.intro hN h2))
  obtain ⟨k1, k2⟩ := hl
  clear hL hN h1 h2 h3
  cases hv : c.validB
  · have e : tsR c l = [] := tsR_no fun h => by rw [h.1] at hv; cases hv
    rw [e]
    have HE := Lib.hid hv
    clear hv e
    go_enter Try.func84, Try.ntmps84
    go_wp2_with (go_at_call 56; ((with_reducible refine (CircuitValid_i _ _ _ (HC.out _ HL.out.1)).mono ?_); rintro e w1 ⟨rfl, hq⟩; have HQ := Lib.hid hq; clear hq; rw [HE.out]))
    go_ret
    exact ⟨none, 0, [], rfl, RowsAt.nil _ _, HL.out.1.trans (HQ.out.mono (by simp))⟩
  · have hval := c.validB_iff.1 hv
    obtain ⟨f1, f2, f3, f4⟩ := valid_first hval
    obtain ⟨q1, q2, q3, q4, q5⟩ := id hval.lim
    have eC : c.first = 1 + c.inp + c.next.length := rfl
    obtain ⟨F, hF⟩ : ∃ F : Nat, c.first = F := ⟨c.first.toNat, by omega⟩
    obtain ⟨V, hV⟩ : ∃ V : Nat, c.vars = V := ⟨c.vars.toNat, by omega⟩
    have e1 : 1 + c.inp + (c.next.length : Int) = (F : Int) := by omega
    have e2 : 1 + c.inp + (c.next.length : Int) + (c.gates.length : Int) = (V : Int) := hV
    have v22 : V ≤ 22 := by omega
    have f8 : F ≤ 8 := by omega
    have HH := Lib.hid (And.intro hv (And.intro hval (And.intro hF (And.intro hV (And.intro e1 (And.intro e2 f3))))))
    clear hv hval f1 f2 f3 f4 eC hF hV e1 e2
    by_cases hlit : 0 ≤ l ∧ l < 2 * (V : Int)
    · have e : tsR c l = tsL c c.gates.length ++ [[dimL l]] := tsR_yes ⟨HH.out.1, by rw [HH.out.2.2.2.1]; exact hlit⟩
      have HE := Lib.hid (And.intro e (decide_eq_true hlit))
      obtain ⟨o1, o2⟩ := hlit
      obtain ⟨dl, hdl⟩ : ∃ dl, dl = dimL l := ⟨_, rfl⟩
      have hdb := dimL_bd (l := l) (by omega) (by omega)
      rw [← hdl] at hdb
      obtain ⟨db1, db2⟩ := hdb
      have HDL := Lib.hid hdl
      clear e hdl
      go_enter Try.func84, Try.ntmps84
      go_wp2_with (first
        | (go_at_call 56; ((with_reducible refine (CircuitValid_i _ _ _ (HC.out _ HL.out.1)).mono ?_); rintro e w1 ⟨rfl, hq⟩; have HQ := Lib.hid (And.intro (blk_below hq (blk_lt HL.out.2.1) HL.out.2.1) (HL.out.1.trans (hq.mono (by simp)))); clear hq; rw [HH.out.1]))
        | (go_at_call 78; ((refine (vars_any _ _ _ _ _ _ _ _ _ _ (CirAt.of_blk HQ.out.1) (by omega) (by omega) (by omega)).mono ?_); rintro e w3 ⟨rfl, hd⟩; rw [HH.out.2.2.2.2.2.1]; have HQ := Lib.hid (And.intro (blk_below (hd.below _) (blk_lt HQ.out.1) HQ.out.1) (HQ.out.2.trans (hd.below _))); have ca := (blk_all HQ.out.1).1; have cl := blk_lt HQ.out.1; clear hd))
        | (go_at_call 82; ((refine (isLit_any _ _ _ (by omega)).mono ?_); rintro e w4 ⟨rfl, rfl⟩; rw [HE.out.2])))
      have hR0 : RowsAt ((w3.alloc (.cells #[.int .i64 (-1)] 3)).alloc (.cells #[.slice (some ⟨w3.heap.size, 0, none⟩) 1 1] 22)) w3.heap.size (.slice (some ⟨w3.heap.size + 1, 0, none⟩) 1 1) [w3.heap.size] (tsL c 0) := by
        refine ⟨own_of_blk (n := 1) (cur := #[.slice (some ⟨w3.heap.size, 0, none⟩) 1 1]) (blk_at (by simp)) (by omega) (by simp) (by unfold maxLen; omega), rfl, fun i b r h1 h2 => ?_, by simp⟩
        match i, h1, h2 with
        | 0, h1, h2 => simp [tsL] at h1 h2; subst h1 h2; exact ⟨blk_old (blk_new _ _), Nat.le_refl _⟩
        | i + 1, h1, h2 => simp at h1
      have hb0 : Below w3.heap.size w3 ((w3.alloc (.cells #[.int .i64 (-1)] 3)).alloc (.cells #[.slice (some ⟨w3.heap.size, 0, none⟩) 1 1] 22)) := by go_grown
      have hz0 : ((w3.alloc (.cells #[.int .i64 (-1)] 3)).alloc (.cells #[.slice (some ⟨w3.heap.size, 0, none⟩) 1 1] 22)).heap.size = w3.heap.size + 2 := by simp
      clear ca
      revert hR0 hb0 hz0
      generalize ((w3.alloc (.cells #[.int .i64 (-1)] 3)).alloc (.cells #[.slice (some ⟨w3.heap.size, 0, none⟩) 1 1] 22)) = W3
      intro hR0 hb0 hz0
      have H3 := Lib.hid (And.intro hR0 hb0)
      clear hR0 hb0 hz0
      go_loopw [25, 5] (fun i x wr => ∃ (k : Nat) (s : Option Addr) (cc : Nat) (bs : List Nat), k ≤ c.gates.length ∧ i = .int .i64 k ∧ x = .slice s (tsL c k).length cc ∧ RowsAt wr w3.heap.size x bs (tsL c k) ∧ Below w3.heap.size w3 wr) (fun i _ _ => c.gates.length - (intOf i).toNat)
      case atStart => exact ⟨0, _, _, _, Nat.zero_le _, rfl, rfl, H3.out.1, H3.out.2⟩
      case round =>
        obtain ⟨k, s5, c5, bs, hk, rfl, rfl, ho, hbl⟩ := hrel
        have hblk := blk_below hbl (blk_lt HQ.out.1) HQ.out.1
        have hbw : Below w.heap.size w wr := HQ.out.2.trans (hbl.mono HQ.out.2.size)
        have hsz := hbl.size
        have hlen := tsL_len c k
        have hlen2 : (tsL c k).length ≤ 43 := by omega
        by_cases hlt : k < c.gates.length
        · obtain ⟨g, hg⟩ := get_of_lt hlt
          obtain ⟨gb, off, rfl, hbw2, z1, z2⟩ := HL.out.2.2.gate hbw hg
          obtain ⟨⟨a1, a2⟩, b1, b2⟩ := valid_gate HH.out.2.1 hg
          have hFe := HH.out.2.2.1
          have a3 : g.a ≤ 1000000 := by omega
          have b3 : g.b ≤ 1000000 := by omega
          obtain ⟨A, hA⟩ : ∃ A, A = dimL g.a := ⟨_, rfl⟩
          obtain ⟨B, hB⟩ : ∃ B, B = dimL g.b := ⟨_, rfl⟩
          have hAb := dimL_bd (l := g.a) a1 (by omega)
          have hBb := dimL_bd (l := g.b) b1 (by omega)
          rw [← hA] at hAb
          rw [← hB] at hBb
          obtain ⟨A1, A2⟩ := hAb
          obtain ⟨B1, B2⟩ := hBb
          have hts := tsL_succ hg (n := (F : Int) + k + 1) (by rw [hFe])
          rw [gRows, ← hA, ← hB] at hts
          have hdA : ∀ W, Calls Try.prog 123 #[.int .i64 g.a] W fun e w' => e = .returned (.int .i64 A) ∧ Drew W w' := fun W => by rw [hA]; exact dimacs_any _ _ a1 a3
          have hdB : ∀ W, Calls Try.prog 123 #[.int .i64 g.b] W fun e w' => e = .returned (.int .i64 B) ∧ Drew W w' := fun W => by rw [hB]; exact dimacs_any _ _ b1 b3
          have HR := Lib.hid (And.intro ho (And.intro hbl (And.intro hblk (And.intro hts (And.intro hdA hdB)))))
          clear ho hbl hblk hbw hg hA hB hts hdA hdB hFe hlen a2 b2 hbw2
          go_wp2_with fail
          have hblkA : ∀ W, Drew (wr.alloc (.cells #[.int .i64 g.a, .int .i64 g.b] 47)) W → W.heap[w.heap.size]? = some (.cells #[.int .i64 c.inp, .slice sn c.next.length cn, .slice (some ⟨gb, off, none⟩) c.gates.length cg, .slice so c.outs.length co] 29 (0, 0)) := fun W hW => by rw [hW.heap]; exact blk_old HR.out.2.2.1
          have hfg : ∀ W, Drew (wr.alloc (.cells #[.int .i64 g.a, .int .i64 g.b] 47)) W → Calls Try.prog 100 #[.pointer (some ⟨w.heap.size, 0, none⟩)] W fun e w' => e = .returned (.int .i64 F) ∧ Drew W w' := fun W hW => by
            have := firstGate_any _ _ _ _ _ _ _ _ (CirAt.of_blk (hblkA W hW)) (by omega) (by omega)
            rw [HH.out.2.2.2.2.1] at this
            exact this
          have HFG := Lib.hid hfg
          clear hfg hblkA
          go_quiet ((first
            | (go_at_call 100; (with_reducible refine Calls.quiet_of (HFG.out _ ?_)); exact ⟨_, rfl⟩)
            | (go_at_call 123; with_reducible exact Calls.quiet_of (HR.out.2.2.2.2.1 _))
            | (go_at_call 123; with_reducible exact Calls.quiet_of (HR.out.2.2.2.2.2 _))))
          have hRQ := HR.out.1.below (below_n ((Below.refl _ _).alloc (Nat.le_refl _) (.cells #[.int .i64 g.a, .int .i64 g.b] 47)) nq)
          have hbQ := below_n (HR.out.2.1.alloc hsz (.cells #[.int .i64 g.a, .int .i64 g.b] 47)) nq
          have hsQ : w3.heap.size ≤ ((wr.alloc (.cells #[.int .i64 g.a, .int .i64 g.b] 47)).drewN nq).heap.size := by simp; omega
          have hk1 : k + 1 ≤ c.gates.length := hlt
          clear z1 z2 hlt
          revert hRQ hbQ hsQ
          generalize (wr.alloc (.cells #[.int .i64 g.a, .int .i64 g.b] 47)).drewN nq = WQ
          intro hRQ hbQ hsQ
          have HQ2 := Lib.hid (And.intro hRQ hbQ)
          clear hRQ hbQ
          go_wp2_with (at_builtin; refine wpl_app rfl _ _ rfl elem_rows (own_below HQ2.out.1.out (by go_grown)) rfl rfl rfl (Sl.new4 _ _ _ _ _ _) (by simp [Value.oneCell']) ((tsL c k).length + 3) rfl (rowVs bs (tsL c k) ++ rowVs [WQ.heap.size, WQ.heap.size + 1, WQ.heap.size + 2] [[-((F : Int) + k + 1), A], [-((F : Int) + k + 1), B], [(F : Int) + k + 1, -A, -B]]) rfl (by unfold maxLen; omega) (by omega) (by simp; omega) ?_; intro s6 c6 w6 h6 hb6 hg6 _; have HA := Lib.hid (And.intro h6 (And.intro hb6 hg6)); clear h6 hb6 hg6)
          go_roundw
          case rel =>
            have el : (tsL c (k + 1)).length = (tsL c k).length + 3 := by rw [HR.out.2.2.2.1]; simp
            have hR' := RowsAt.add HQ2.out.1 (by go_grown) [WQ.heap.size, WQ.heap.size + 1, WQ.heap.size + 2] [[-((F : Int) + k + 1), A], [-((F : Int) + k + 1), B], [(F : Int) + k + 1, -A, -B]] rfl rows3 (by simp) hsQ HA.out.2.2 HA.out.1
            refine ⟨k + 1, s6, c6, bs ++ [WQ.heap.size, WQ.heap.size + 1, WQ.heap.size + 2], by omega, by go_num, by rw [el], ?_, HQ2.out.2.trans (Below.trans (by go_grown) HA.out.2.1)⟩
            rw [HR.out.2.2.2.1]; exact hR'
          case measure => simp [intOf]; omega
        · obtain rfl : k = c.gates.length := by omega
          have HR := Lib.hid (And.intro ho (And.intro hbl hbw))
          clear ho hbl hblk hbw hlen
          have hdm : Hid (∀ W, Calls Try.prog 123 #[.int .i64 l] W fun e w' => e = .returned (.int .i64 dl) ∧ W = w') := fun W => by rw [HDL.out]; exact dimacs_eq _ _ o1 (by omega)
          go_wp2_with (first
            | (go_at_call 123; ((with_reducible refine (hdm.out _).mono ?_); rintro e w6 ⟨rfl, rfl⟩))
            | (at_builtin; refine wpl_app rfl _ _ rfl elem_rows (own_below HR.out.1.out (by go_grown)) rfl rfl rfl (Sl.new2 _ _ _ _) (by simp [Value.oneCell']) ((tsL c c.gates.length).length + 1) rfl (rowVs bs (tsL c c.gates.length) ++ rowVs [wr.heap.size] [[dl]]) rfl (by unfold maxLen; omega) (by omega) (by simp; omega) ?_; intro s6 c6 w6 h6 hb6 hg6 _; have HA := Lib.hid (And.intro h6 (And.intro hb6 hg6)); clear h6 hb6 hg6))
          go_ret
          have hR' := RowsAt.add HR.out.1 (by go_grown) [wr.heap.size] [[dl]] rfl rows1 (by simp) hsz HA.out.2.2 HA.out.1
          have el : (tsR c l).length = (tsL c c.gates.length).length + 1 := by rw [HE.out.1]; simp
          have er : tsR c l = tsL c c.gates.length ++ [[dl]] := by rw [HE.out.1, HDL.out]
          have hbF : Below w3.heap.size w3 w6 := HR.out.2.1.trans (Below.trans (by go_grown) HA.out.2.1)
          rw [← er] at hR'
          refine ⟨s6, c6, bs ++ [wr.heap.size], by rw [el]; rfl, ?_, HQ.out.2.trans (hbF.mono HQ.out.2.size)⟩
          rw [el]; exact ⟨own_base hR'.out HQ.out.2.size, hR'.len, fun i b r h1 h2 => ⟨(hR'.blk i b r h1 h2).1, Nat.le_trans HQ.out.2.size (hR'.blk i b r h1 h2).2⟩, hR'.inc⟩
    · have e : tsR c l = [] := tsR_no fun h => hlit (by have h1 := h.2; rw [HH.out.2.2.2.1] at h1; exact h1)
      rw [e]
      have HE := Lib.hid (decide_eq_false hlit)
      clear e hlit
      go_enter Try.func84, Try.ntmps84
      go_wp2_with (first
        | (go_at_call 56; ((with_reducible refine (CircuitValid_i _ _ _ (HC.out _ HL.out.1)).mono ?_); rintro e w1 ⟨rfl, hq⟩; have HQ := Lib.hid (And.intro (blk_below hq (blk_lt HL.out.2.1) HL.out.2.1) (HL.out.1.trans (hq.mono (by simp)))); clear hq; rw [HH.out.1]))
        | (go_at_call 78; ((refine (vars_any _ _ _ _ _ _ _ _ _ _ (CirAt.of_blk HQ.out.1) (by omega) (by omega) (by omega)).mono ?_); rintro e w3 ⟨rfl, hd⟩; rw [HH.out.2.2.2.2.2.1]; have HQ := Lib.hid (And.intro (blk_below (hd.below _) (blk_lt HQ.out.1) HQ.out.1) (HQ.out.2.trans (hd.below _))); clear hd))
        | (go_at_call 82; ((refine (isLit_any _ _ _ (by omega)).mono ?_); rintro e w4 ⟨rfl, rfl⟩; rw [HE.out])))
      go_ret
      exact ⟨none, 0, [], rfl, RowsAt.nil _ _, HQ.out.2⟩

end Go.Proofs.Ytindndcdpnpcmaa
