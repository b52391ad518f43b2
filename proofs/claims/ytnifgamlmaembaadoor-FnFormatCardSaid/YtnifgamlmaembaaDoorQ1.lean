import Derived.Test.YtnifgamlmaembaaDoorB5
import Derived.Laws.OwnMore
import Derived.Test.YtnifgamlmaembaaDoorM1
import Derived.Deep.DeepCutAuto
namespace Go.Proofs.YtnifgamlmaembaaDoor
set_option linter.unusedVariables false
set_option linter.unusedSimpArgs false
open Go.RowKit

/-! Marks: what a law writes into results and copies, and reads back. -/

/-- Only blocks in S may have turned. -/
structure Chg (S : Nat → Prop) (w w' : World) : Prop where
  os : w'.os = w.os
  tape : w'.tape = w.tape
  output : w'.output = w.output
  size : w.heap.size ≤ w'.heap.size
  block : ∀ k, k < w.heap.size → ¬ S k → w'.heap[k]? = w.heap[k]?
theorem Chg.refl (S : Nat → Prop) (w : World) : Chg S w w := ⟨rfl, rfl, rfl, Nat.le_refl _, fun _ _ _ => rfl⟩
theorem Chg.trans {S : Nat → Prop} {a b c : World} (h : Chg S a b) (k : Chg S b c) : Chg S a c :=
  ⟨k.os.trans h.os, k.tape.trans h.tape, k.output.trans h.output, Nat.le_trans h.size k.size, fun i hi hn => (k.block i (by have := h.size; omega) hn).trans (h.block i hi hn)⟩
theorem Chg.mono {S T : Nat → Prop} {a b : World} (h : Chg S a b) (hs : ∀ k, S k → T k) : Chg T a b := ⟨h.os, h.tape, h.output, h.size, fun k hk hn => h.block k hk fun e => hn (hs k e)⟩
theorem Chg.of_grown {w w' : World} {row : Option Nat} (h : w.grownBy w' row) : Chg (fun k => row = some k) w w' := ⟨h.os, h.tape, h.output, h.size, fun k hk hn => h.block k hk fun e => hn e.symm⟩
theorem Chg.of_below {S : Nat → Prop} {w w' : World} (h : Below w.heap.size w w') : Chg S w w' := ⟨h.os, h.tape, h.output, h.size, fun k hk _ => h.block k hk⟩
theorem Chg.below {S : Nat → Prop} {w w' : World} (h : Chg S w w') {b : Nat} (hb : b ≤ w.heap.size) (hs : ∀ k, k < b → ¬ S k) : Below b w w' := ⟨h.os, h.tape, h.output, h.size, fun k hk => h.block k (by omega) (hs k hk)⟩
theorem Chg.own {S : Nat → Prop} {w w' : World} (h : Chg S w w') {base : Nat} {e : TypeId} {size : Nat} {v : Value} {n : Nat} {xs : List Value} (ho : w.ownsRow base e size v n xs) (hs : ∀ k, v.ownBlock = some k → ¬ S k) : w'.ownsRow base e size v n xs := by
  refine ⟨ho.1, ?_⟩
  rcases ho.2 with hn | ⟨g, cap, cur, rfl, hb', hg, rest⟩
  · exact .inl hn
  · exact .inr ⟨g, cap, cur, rfl, hb', by rw [h.block g (blk_lt hg) (hs g rfl)]; exact hg, rest⟩
theorem Chg.blk {S : Nat → Prop} {w w' : World} (h : Chg S w w') {b : Nat} {x : Obj} (hb : w.heap[b]? = some x) (hs : ¬ S b) : w'.heap[b]? = some x := by
  rw [h.block b (blk_lt hb) hs]; exact hb

theorem wf_int64c {n : Int} (h : (Lit.int .i64 n).wf = true) : -9223372036854775808 ≤ n ∧ n ≤ 9223372036854775807 := by
  simpa [Lit.wf, IntKind.min, IntKind.max, IntKind.bits, IntKind.signed] using h

def iota (k : Int) (n : Nat) : List Int := (List.range n).map fun (i : Nat) => k + i
theorem iota_length (k : Int) (n : Nat) : (iota k n).length = n := by simp [iota]
theorem iota_get {k : Int} {n j : Nat} (h : j < n) : (iota k n)[j]? = some (k + j) := by simp [iota, h]

theorem own_some {w : World} {base : Nat} {e : TypeId} {size n cap : Nat} {s : Option Addr} {xs : List Value} (h : w.ownsRow base e size (.slice s n cap) n xs) : (s = none ∧ n = 0 ∧ cap = 0) ∨ ∃ g, s = some ⟨g, 0, none⟩ := by
  rcases h.2 with ⟨e, _⟩ | ⟨g, cap', cur, e, _⟩
  · simp only [Value.slice.injEq] at e; exact .inl e
  · simp only [Value.slice.injEq] at e; exact .inr ⟨g, e.1⟩

set_option maxHeartbeats 400000 in
theorem markIntS_any (base : Nat) (s : Option Addr) (n cap : Nat) (xs : List Int) (k : Int) (w : World) (h : w.ownsRow base 3 1 (.slice s n cap) n (ints xs)) (hn : n ≤ 1048576) (hk : 0 ≤ k) (hk2 : k ≤ 100000000) :
    Calls Tryd.prog 35 #[.slice s n cap, .int .i64 k] w fun e w' => e = .returned (.int .i64 (k + n)) ∧ w'.ownsRow base 3 1 (.slice s n cap) n (ints (iota k n)) ∧ w.grownBy w' (Value.slice s n cap).ownBlock := by
  rcases own_some h with ⟨rfl, rfl, rfl⟩ | ⟨g, rfl⟩
  · have HO := Lib.hid h
    clear h
    go_enter Tryd.func35, Tryd.ntmps35
    go_wp2_with fail
    refine wp_loop_rounds 1 ?_
    rw [rounds_succ]
    go_wp2
    go_ret
    exact ⟨ret_int (by simp), World.ownsRow_nil _ _ _ _, World.grownBy.refl _ _⟩
  · have HO := Lib.hid h
    clear h
    go_enter Tryd.func35, Tryd.ntmps35
    go_wp2_with fail
    go_loopw [1, 5] (fun v1 i wr => ∃ (j : Nat) (ys : List Value), j ≤ n ∧ i = .int .i64 j ∧ v1 = .int .i64 (k + j) ∧ (∀ q, q < j → ys[q]? = some (.int .i64 (k + q))) ∧ wr.ownsRow base 3 1 (.slice (some ⟨g, 0, none⟩) n cap) n ys ∧ w.grownBy wr (some g)) (fun _ i _ => n - (intOf i).toNat)
    case atStart => exact ⟨0, _, Nat.zero_le _, rfl, by simp, fun q hq => by omega, HO.out, World.grownBy.refl _ _⟩
    case round =>
      obtain ⟨j, ys, hj, rfl, rfl, hy, ho, hg⟩ := hrel
      have hlen : ys.length = n := by simpa using ho.1
      by_cases hlt : j < n
      · obtain ⟨y, hyj⟩ := get_of_lt (l := ys) (k := j) (by omega)
        have hc : wr.cell? ⟨g, j, none⟩ = some y := (ho.cellAt j (by omega)).trans hyj
        have hf : wr.frozen? ⟨g, j, none⟩ = false := ho.frozenAt j
        have HR := Lib.hid (And.intro hy (And.intro ho (And.intro hg hlen)))
        clear hy ho hg hlen hyj
        go_wp2
        obtain ⟨hy, ho, hg, hlen⟩ := HR.out
        obtain ⟨h1, h2⟩ := ho.stored j (.int .i64 (k + j))
        go_roundw
        case rel =>
          refine ⟨j + 1, _, by omega, by go_num, by go_num, fun q hq => ?_, h1, hg.trans h2⟩
          by_cases e : q = j
          · subst e; simp [hlen, hlt]
          · rw [List.getElem?_set_ne (Ne.symm e)]; exact hy q (by omega)
        case measure => simp [intOf]; omega
      · obtain rfl : j = n := by omega
        have e : ys = ints (iota k j) := by
          apply List.ext_getElem?
          intro q
          by_cases hq : q < j
          · rw [hy q hq, ints_get (iota_get hq)]
          · rw [List.getElem?_eq_none (by omega), List.getElem?_eq_none (by rw [ints_length, iota_length]; omega)]
        subst e
        have HR := Lib.hid (And.intro ho hg)
        clear ho hg hy hlen
        go_wp2
        go_ret
        exact ⟨rfl, HR.out.1, HR.out.2⟩

set_option maxHeartbeats 400000 in
theorem markGateS_any (base : Nat) (s : Option Addr) (n cap : Nat) (xs : List Value) (k : Int) (w : World) (h : w.ownsRow base 52 2 (.slice s n cap) n xs) (hn : n ≤ 1048576) (hk : 0 ≤ k) (hk2 : k ≤ 100000000) :
    Calls Tryd.prog 36 #[.slice s n cap, .int .i64 k] w fun e w' => e = .returned (.int .i64 (k + 2 * n)) ∧ w'.ownsRow base 52 2 (.slice s n cap) n (ints (iota k (2 * n))) ∧ w.grownBy w' (Value.slice s n cap).ownBlock := by
  rcases own_some h with ⟨rfl, rfl, rfl⟩ | ⟨g, rfl⟩
  · have HO := Lib.hid h
    clear h
    go_enter Tryd.func36, Tryd.ntmps36
    go_wp2_with fail
    refine wp_loop_rounds 1 ?_
    rw [rounds_succ]
    go_wp2
    go_ret
    exact ⟨ret_int (by simp), World.ownsRow_nil _ _ _ _, World.grownBy.refl _ _⟩
  · have HO := Lib.hid h
    clear h
    go_enter Tryd.func36, Tryd.ntmps36
    go_wp2_with fail
    go_loopw [1, 5] (fun v1 i wr => ∃ (j : Nat) (ys : List Value), j ≤ n ∧ i = .int .i64 j ∧ v1 = .int .i64 (k + 2 * j) ∧ (∀ q, q < 2 * j → ys[q]? = some (.int .i64 (k + q))) ∧ wr.ownsRow base 52 2 (.slice (some ⟨g, 0, none⟩) n cap) n ys ∧ w.grownBy wr (some g)) (fun _ i _ => n - (intOf i).toNat)
    case atStart => exact ⟨0, _, Nat.zero_le _, rfl, by simp, fun q hq => by omega, HO.out, World.grownBy.refl _ _⟩
    case round =>
      obtain ⟨j, ys, hj, rfl, rfl, hy, ho, hg⟩ := hrel
      have hlen : ys.length = n * 2 := by simpa using ho.1
      by_cases hlt : j < n
      · obtain ⟨y, hyj⟩ := get_of_lt (l := ys) (k := j * 2) (by omega)
        obtain ⟨y', hyj'⟩ := get_of_lt (l := ys) (k := j * 2 + 1) (by omega)
        have hc : wr.cell? ⟨g, j * 2, none⟩ = some y := (ho.cellAt (j * 2) (by omega)).trans hyj
        have hf : wr.frozen? ⟨g, j * 2, none⟩ = false := ho.frozenAt _
        have hc' : wr.cell? ⟨g, j * 2 + 1, none⟩ = some y' := (ho.cellAt (j * 2 + 1) (by omega)).trans hyj'
        have hf' : wr.frozen? ⟨g, j * 2 + 1, none⟩ = false := ho.frozenAt _
        have HR := Lib.hid (And.intro hy (And.intro ho (And.intro hg hlen)))
        clear hy ho hg hlen hyj hyj'
        go_wp2
        obtain ⟨hy, ho, hg, hlen⟩ := HR.out
        obtain ⟨h1, h2⟩ := ho.stored (j * 2) (.int .i64 (k + 2 * j))
        obtain ⟨h3, h4⟩ := h1.stored (j * 2 + 1) (.int .i64 (k + 2 * j + 1))
        go_roundw
        case rel =>
          refine ⟨j + 1, _, by omega, by go_num, by go_num, fun q hq => ?_, h3, (hg.trans h2).trans h4⟩
          by_cases e : q = j * 2 + 1
          · subst e
            rw [List.getElem?_set_self (by simp; omega)]
            congr 2; omega
          · rw [List.getElem?_set_ne (Ne.symm e)]
            by_cases e2 : q = j * 2
            · subst e2
              rw [List.getElem?_set_self (by omega)]
              congr 2; omega
            · rw [List.getElem?_set_ne (Ne.symm e2)]; exact hy q (by omega)
        case measure => simp [intOf]; omega
      · obtain rfl : j = n := by omega
        have e : ys = ints (iota k (2 * j)) := by
          apply List.ext_getElem?
          intro q
          by_cases hq : q < 2 * j
          · rw [hy q hq, ints_get (iota_get hq)]
          · rw [List.getElem?_eq_none (by omega), List.getElem?_eq_none (by rw [ints_length, iota_length]; omega)]
        subst e
        have HR := Lib.hid (And.intro ho hg)
        clear ho hg hy hlen
        go_wp2
        go_ret
        exact ⟨rfl, HR.out.1, HR.out.2⟩

set_option maxHeartbeats 400000 in
theorem heldIntS_any (s : Option Addr) (n cap : Nat) (k : Int) (w : World) (h : Sl w s (ints (iota k n))) (hn : n ≤ 1048576) (hk : 0 ≤ k) (hk2 : k ≤ 100000000) :
    Calls Tryd.prog 43 #[.slice s n cap, .int .i64 k] w fun e w' => e = .returned (.int .i64 (k + n)) ∧ Drew w w' := by
  have HS := Lib.hid h
  clear h
  go_enter Tryd.func43, Tryd.ntmps43
  go_wp2_with fail
  go_loopw [1, 5] (fun v1 i wr => ∃ j : Nat, j ≤ n ∧ i = .int .i64 j ∧ v1 = .int .i64 (k + j) ∧ Drew w wr) (fun _ i _ => n - (intOf i).toNat)
  case atStart => exact ⟨0, Nat.zero_le _, rfl, by simp, Drew.refl _⟩
  case round =>
    obtain ⟨j, hj, rfl, rfl, hd⟩ := hrel
    by_cases hlt : j < n
    · obtain ⟨b, off, rfl, hbw, hz⟩ := HS.out.int (hd.below _) (iota_get hlt)
      have HD := Lib.hid hd
      clear hd
      go_wp2_with fail
      first | (go_quiet (fail); go_wp2) | skip
      go_roundw
      case rel => exact ⟨j + 1, by omega, by go_num, by go_num, by first | exact HD.out | exact HD.out.n _⟩
      case measure => simp [intOf]; omega
    · obtain rfl : j = n := by omega
      have HD := Lib.hid hd
      clear hd
      go_wp2
      go_ret
      exact ⟨rfl, HD.out⟩

set_option maxHeartbeats 400000 in
theorem heldGateS_any (s : Option Addr) (n cap : Nat) (k : Int) (w : World) (h : Sl w s (ints (iota k (2 * n)))) (hn : n ≤ 1048576) (hk : 0 ≤ k) (hk2 : k ≤ 100000000) :
    Calls Tryd.prog 44 #[.slice s n cap, .int .i64 k] w fun e w' => e = .returned (.int .i64 (k + 2 * n)) ∧ Drew w w' := by
  have HS := Lib.hid h
  clear h
  go_enter Tryd.func44, Tryd.ntmps44
  go_wp2_with fail
  go_loopw [1, 5] (fun v1 i wr => ∃ j : Nat, j ≤ n ∧ i = .int .i64 j ∧ v1 = .int .i64 (k + 2 * j) ∧ Drew w wr) (fun _ i _ => n - (intOf i).toNat)
  case atStart => exact ⟨0, Nat.zero_le _, rfl, by simp, Drew.refl _⟩
  case round =>
    obtain ⟨j, hj, rfl, rfl, hd⟩ := hrel
    by_cases hlt : j < n
    · obtain ⟨b, off, rfl, hbw, hz⟩ := HS.out.int (hd.below _) (iota_get (show j * 2 < 2 * n by omega))
      obtain ⟨b', off', hbb, -, hz'⟩ := HS.out.int (hd.below _) (iota_get (show j * 2 + 1 < 2 * n by omega))
      simp only [Option.some.injEq, Addr.mk.injEq, and_true] at hbb
      obtain ⟨rfl, rfl⟩ := hbb
      rw [show k + ((j * 2 : Nat) : Int) = k + 2 * j by omega] at hz
      rw [show k + ((j * 2 + 1 : Nat) : Int) = k + 2 * j + 1 by omega, ← Nat.add_assoc] at hz'
      have HD := Lib.hid hd
      clear hd
      go_wp2_with fail
      first | (go_quiet (fail); go_wp2) | skip
      go_roundw
      case rel => exact ⟨j + 1, by omega, by go_num, by go_num, by first | exact HD.out | exact HD.out.n _⟩
      case measure => simp [intOf]; omega
    · obtain rfl : j = n := by omega
      have HD := Lib.hid hd
      clear hd
      go_wp2
      go_ret
      exact ⟨rfl, HD.out⟩

/-- The copy of a circuit, block by block. -/
structure CirOwn (w : World) (base : Nat) (c : Cir) (vn vg vo : Value) : Prop where
  n : w.ownsRow base 3 1 vn c.next.length (ints c.next)
  g : w.ownsRow base 52 2 vg c.gates.length (gcells c.gates)
  o : w.ownsRow base 3 1 vo c.outs.length (ints c.outs)
  ne : ∀ k, vn.ownBlock = some k → vo.ownBlock ≠ some k
  l1 : c.next.length ≤ 1048576
  l2 : c.gates.length ≤ 1048576
  l3 : c.outs.length ≤ 1048576

theorem own_ty {w : World} {base base' : Nat} {e e' : TypeId} {size size' : Nat} {v v' : Value} {n n' : Nat} {xs xs' : List Value} (h : w.ownsRow base e size v n xs) (h' : w.ownsRow base' e' size' v' n' xs') (he : e ≠ e') {k : Nat} (hk : v.ownBlock = some k) : v'.ownBlock ≠ some k := by
  intro hk'
  rcases h.2 with ⟨rfl, _⟩ | ⟨g, cap, cur, rfl, _, hg, _⟩
  · cases hk
  · rcases h'.2 with ⟨rfl, _⟩ | ⟨g', cap', cur', rfl, _, hg', _⟩
    · cases hk'
    · simp only [Value.ownBlock, Option.some.injEq] at hk hk'
      subst hk; subst hk'
      rw [hg] at hg'
      simp only [Option.some.injEq, Obj.cells.injEq] at hg'
      exact he hg'.2.1

/-- What a mark of a circuit leaves: its rows' cells one by one. -/
structure Marked (w : World) (base : Nat) (c : Cir) (k : Int) (vn vg vo : Value) : Prop where
  n : w.ownsRow base 3 1 vn c.next.length (ints (iota k c.next.length))
  g : w.ownsRow base 52 2 vg c.gates.length (ints (iota (k + c.next.length) (2 * c.gates.length)))
  o : w.ownsRow base 3 1 vo c.outs.length (ints (iota (k + c.next.length + 2 * c.gates.length) c.outs.length))

def inCir (vn vg vo : Value) (k : Nat) : Prop := vn.ownBlock = some k ∨ vg.ownBlock = some k ∨ vo.ownBlock = some k

set_option maxHeartbeats 400000 in
theorem markCircuit_any (base : Nat) (c : Cir) (k inp : Int) (sn sg so : Option Addr) (cn cg co : Nat) (w : World) (h : CirOwn w base c (.slice sn c.next.length cn) (.slice sg c.gates.length cg) (.slice so c.outs.length co)) (hk : 0 ≤ k) (hk2 : k ≤ 1000) :
    Calls Tryd.prog 12 #[.agg #[.int .i64 inp, .slice sn c.next.length cn, .slice sg c.gates.length cg, .slice so c.outs.length co], .int .i64 k] w fun e w' => e = .returned (.int .i64 (k + c.next.length + 2 * c.gates.length + c.outs.length)) ∧
      Marked w' base c k (.slice sn c.next.length cn) (.slice sg c.gates.length cg) (.slice so c.outs.length co) ∧ Chg (inCir (.slice sn c.next.length cn) (.slice sg c.gates.length cg) (.slice so c.outs.length co)) w w' := by
  obtain ⟨hn, hg, ho, hne, l1, l2, l3⟩ := h
  have hN := blk_new w (.cells #[.int .i64 inp, .slice sn c.next.length cn, .slice sg c.gates.length cg, .slice so c.outs.length co] 31)
  have hCg : Chg (inCir (.slice sn c.next.length cn) (.slice sg c.gates.length cg) (.slice so c.outs.length co)) w (w.alloc (.cells #[.int .i64 inp, .slice sn c.next.length cn, .slice sg c.gates.length cg, .slice so c.outs.length co] 31)) := Chg.of_below ((Below.refl _ _).alloc (Nat.le_refl _) _)
  have H0 := Lib.hid (And.intro (hn.alloc (.cells #[.int .i64 inp, .slice sn c.next.length cn, .slice sg c.gates.length cg, .slice so c.outs.length co] 31)) (And.intro (hg.alloc (.cells #[.int .i64 inp, .slice sn c.next.length cn, .slice sg c.gates.length cg, .slice so c.outs.length co] 31)) (And.intro (ho.alloc (.cells #[.int .i64 inp, .slice sn c.next.length cn, .slice sg c.gates.length cg, .slice so c.outs.length co] 31)) (And.intro hne (And.intro hN hCg)))))
  have HB : Hid ((∀ q, (Value.slice sn c.next.length cn).ownBlock = some q → q ≠ w.heap.size) ∧ (∀ q, (Value.slice sg c.gates.length cg).ownBlock = some q → q ≠ w.heap.size) ∧ (∀ q, (Value.slice so c.outs.length co).ownBlock = some q → q ≠ w.heap.size)) := ⟨fun q e h => by have := (own_blk hn e).2; omega, fun q e h => by have := (own_blk hg e).2; omega, fun q e h => by have := (own_blk ho e).2; omega⟩
  clear hn hg ho hne hN hCg
  go_enter Tryd.func12, Tryd.ntmps12
  go_wp2_with fail
  refine (markIntS_any base sn _ _ _ _ _ H0.out.1 l1 hk (by omega)).mono ?_
  rintro e w1 ⟨rfl, h1, h2⟩
  have C1 := Chg.of_grown h2
  have H1 := Lib.hid (And.intro h1 (And.intro (C1.own H0.out.2.1 (fun q e h => own_ty H0.out.2.1 H0.out.1 (by decide) e h)) (And.intro (C1.own H0.out.2.2.1 (fun q e h => H0.out.2.2.2.1 q h e)) (And.intro (C1.blk H0.out.2.2.2.2.1 (fun h => HB.out.1 _ h rfl)) (H0.out.2.2.2.2.2.trans (C1.mono fun q e => .inl e))))))
  have ca1 := (blk_all H1.out.2.2.2.1).1
  clear h1 h2 C1
  go_wp2_with fail
  refine (markGateS_any base sg _ _ _ _ _ H1.out.2.1 l2 (by omega) (by omega)).mono ?_
  rintro e w2 ⟨rfl, h1, h2⟩
  have C2 := Chg.of_grown h2
  have H2 := Lib.hid (And.intro h1 (And.intro (C2.own H1.out.1 (fun q e h => own_ty H1.out.1 H1.out.2.1 (by decide) e h)) (And.intro (C2.own H1.out.2.2.1 (fun q e h => own_ty H1.out.2.2.1 H1.out.2.1 (by decide) e h)) (And.intro (C2.blk H1.out.2.2.2.1 (fun h => HB.out.2.1 _ h rfl)) (H1.out.2.2.2.2.trans (C2.mono fun q e => .inr (.inl e)))))))
  have ca2 := (blk_all H2.out.2.2.2.1).1
  clear h1 h2 C2 ca1
  go_wp2_with fail
  refine (markIntS_any base so _ _ _ _ _ H2.out.2.2.1 l3 (by omega) (by omega)).mono ?_
  rintro e w3 ⟨rfl, h1, h2⟩
  have C3 := Chg.of_grown h2
  have H3 := Lib.hid (And.intro h1 (And.intro (C3.own H2.out.1 (fun q e h => own_ty H2.out.1 H2.out.2.2.1 (by decide) e h)) (And.intro (C3.own H2.out.2.1 (fun q e h => H0.out.2.2.2.1 q e h)) (H2.out.2.2.2.2.trans (C3.mono fun q e => .inr (.inr e))))))
  clear h1 h2 C3 ca2
  go_wp2
  go_ret
  exact ⟨ret_int (by omega), ⟨H3.out.2.2.1, H3.out.2.1, H3.out.1⟩, H3.out.2.2.2⟩

set_option maxHeartbeats 400000 in
theorem heldCircuit_any (base : Nat) (c : Cir) (k inp : Int) (sn sg so : Option Addr) (cn cg co : Nat) (w : World) (h : Marked w base c k (.slice sn c.next.length cn) (.slice sg c.gates.length cg) (.slice so c.outs.length co)) (l1 : c.next.length ≤ 1048576) (l2 : c.gates.length ≤ 1048576) (l3 : c.outs.length ≤ 1048576) (hk : 0 ≤ k) (hk2 : k ≤ 1000) :
    Calls Tryd.prog 19 #[.agg #[.int .i64 inp, .slice sn c.next.length cn, .slice sg c.gates.length cg, .slice so c.outs.length co], .int .i64 k] w fun e w' => e = .returned (.int .i64 (k + c.next.length + 2 * c.gates.length + c.outs.length)) ∧ Below w.heap.size w w' := by
  have hL : Below w.heap.size w (w.alloc (.cells #[.int .i64 inp, .slice sn c.next.length cn, .slice sg c.gates.length cg, .slice so c.outs.length co] 31)) := by go_grown
  have HS := Lib.hid (And.intro (own_sl h.n) (And.intro (own_sl h.g) (And.intro (own_sl h.o) hL)))
  clear h hL
  go_enter Tryd.func19, Tryd.ntmps19
  go_wp2_with (first
    | (go_at_call 43; ((with_reducible refine (heldIntS_any sn _ _ _ _ (HS.out.1.mono HS.out.2.2.2) l1 (by omega) (by omega)).mono ?_); rintro e w' ⟨rfl, n1, rfl⟩))
    | (go_at_call 44; ((with_reducible refine (heldGateS_any sg _ _ _ _ (HS.out.2.1.mono (below_n HS.out.2.2.2 _)) l2 (by omega) (by omega)).mono ?_); rintro e w' ⟨rfl, n2, rfl⟩))
    | (go_at_call 43; ((with_reducible refine (heldIntS_any so _ _ _ _ (HS.out.2.2.1.mono (below_n HS.out.2.2.2 _)) l3 (by omega) (by omega)).mono ?_); rintro e w' ⟨rfl, n3, rfl⟩)))
  go_ret
  exact ⟨ret_int (by omega), below_n HS.out.2.2.2 _⟩

/-! How often variables are used. -/

def cntL (L : List Int) (v : Int) : Nat := (L.filter fun x => decide (x / 2 = v)).length
def glits (gs : List Gt) : List Int := gs.flatMap fun g => [g.a, g.b]
def Cir.usesI (c : Cir) : List Int := glits c.gates ++ (c.next ++ c.outs)
theorem cntL_append (A B : List Int) (v : Int) : cntL (A ++ B) v = cntL A v + cntL B v := by simp [cntL]
theorem cntL_one (x v : Int) : cntL [x] v = if x / 2 = v then 1 else 0 := by
  by_cases h : x / 2 = v <;> simp [cntL, h]
theorem cntL_le (L : List Int) (v : Int) : cntL L v ≤ L.length := List.length_filter_le _ _
theorem glits_snoc {gs : List Gt} {k : Nat} {g : Gt} (h : gs[k]? = some g) : glits (gs.take (k + 1)) = glits (gs.take k) ++ [g.a] ++ [g.b] := by
  rw [List.take_add_one, h]; simp [glits]
theorem glits_length (gs : List Gt) : (glits gs).length = 2 * gs.length := by
  induction gs with
  | nil => rfl
  | cons g gs ih => simp [glits] at ih ⊢; omega
def cnts (L : List Int) (n : Nat) : List Int := (List.range n).map fun (i : Nat) => ((cntL L (i : Int) : Nat) : Int)
theorem cnts_length (L : List Int) (n : Nat) : (cnts L n).length = n := by simp [cnts]
theorem cnts_get {L : List Int} {n p : Nat} (h : p < n) : (cnts L n)[p]? = some ((cntL L (p : Int) : Nat) : Int) := by simp [cnts, h]
theorem cnts_nil (n : Nat) : cnts [] n = List.replicate n 0 := by
  apply List.ext_getElem?
  intro i
  by_cases h : i < n
  · rw [cnts_get h]; simp [h, cntL]
  · rw [List.getElem?_eq_none (by rw [cnts_length]; omega), List.getElem?_eq_none (by simp; omega)]
theorem cnts_snoc {L : List Int} {n p : Nat} {x : Int} (hx : x / 2 = (p : Int)) (hp : p < n) : cnts (L ++ [x]) n = (cnts L n).set p ((cntL L (p : Int) : Int) + 1) := by
  apply List.ext_getElem?
  intro i
  by_cases h : i < n
  · rw [cnts_get h]
    by_cases e : i = p
    · subst e
      rw [List.getElem?_set_self (by rw [cnts_length]; exact h), cntL_append, cntL_one, if_pos hx]; simp
    · rw [List.getElem?_set_ne (Ne.symm e), cnts_get h, cntL_append, cntL_one, if_neg (by omega)]; simp
  · rw [List.getElem?_eq_none (by rw [cnts_length]; omega), List.getElem?_eq_none (by rw [List.length_set, cnts_length]; omega)]

theorem ints_set (xs : List Int) (p : Nat) (v : Int) : (ints xs).toArray.setIfInBounds p (.int .i64 v) = (ints (xs.set p v)).toArray := by
  apply Array.ext'
  simp [ints, List.map_set]
theorem ints_cell {w : World} {g p : Nat} {xs : List Int} {t : TypeId} {x : Int} (h : w.heap[g]? = some (.cells (ints xs).toArray t (0, 0))) (hx : xs[p]? = some x) : w.cell? ⟨g, p, none⟩ = some (.int .i64 x) := by
  rw [blk_cell h]; simpa using ints_get hx
theorem ints_blk_set {w : World} {g : Nat} {xs : List Int} {t : TypeId} (h : w.heap[g]? = some (.cells (ints xs).toArray t (0, 0))) (p : Nat) (v : Int) : (w.setCell ⟨g, p, none⟩ (.int .i64 v)).heap[g]? = some (.cells (ints (xs.set p v)).toArray t (0, 0)) := by
  rw [← ints_set]; exact blk_set h

theorem mkInts (w : World) (n : Nat) (h : n ≤ 1048576) : (Instr.makeSlice 22 (.int .i64 (n : Int)) (.int .i64 (n : Int))).run Tryd.prog w = .ok (.slice (some ⟨w.heap.size, 0, none⟩) n n) (w.alloc (.cells (ints (List.replicate n 0)).toArray 3)) := by
  obtain ⟨i, hi, h1, h2, h3⟩ := info_parts (P := Tryd.prog) (e := 3) (z := .int .i64 0) (size := 1) (bytes := 8) (by kernel_rfl)
  have := run_make (P := Tryd.prog) w 22 3 i (.int .i64 0) (by kernel_rfl) hi h1 .i64 .i64 n n (by omega) (by omega) (by rw [h3]; omega) (by omega)
  rw [this, h2]
  have e : madeCells #[Value.int .i64 0] n = (ints (List.replicate n 0)).toArray := by
    apply Array.ext'
    rw [toList_madeCells_one]; simp [ints]
  simp [Value.cells, e]

theorem valid_gate {c : Cir} (h : c.valid) {k : Nat} {g : Gt} (hg : c.gates[k]? = some g) : (0 ≤ g.a ∧ g.a / 2 < c.first + k) ∧ 0 ≤ g.b ∧ g.b / 2 < c.first + k := by
  have := gatesP_at h.gates hg
  unfold litP at this; omega
theorem valid_first {c : Cir} (h : c.valid) : 1 ≤ c.first ∧ c.first ≤ 8 ∧ c.vars = c.first + c.gates.length ∧ c.gates.length ≤ 14 := by
  have := h.lim
  unfold Cir.limits at this
  unfold Cir.first Cir.vars; omega

end Go.Proofs.YtnifgamlmaembaaDoor
