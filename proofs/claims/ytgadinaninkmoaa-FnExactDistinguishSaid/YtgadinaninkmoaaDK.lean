import Derived.Test.YtgadinaninkmoaaDI
import Derived.Test.YtgadinaninkmoaaDH
import Derived.Lib.SliceRun
namespace Go.Proofs.Ytgadinaninkmoaa
set_option linter.unusedVariables false
set_option linter.unusedSimpArgs false
open Go.RowKit

/-! The program's search: copies of rows, the step of two circuits, the breadth-first search. -/

theorem elem_p2 : ElemOf Try.prog 79 51 (.agg #[.int .i64 0, .int .i64 0]) 2 16 :=
  ⟨by kernel_rfl, info_parts (by kernel_rfl), rfl, by omega⟩
theorem elem_bsss : ElemOf Try.prog 80 27 (.slice none 0 0) 1 24 :=
  ⟨by kernel_rfl, info_parts (by kernel_rfl), rfl, by omega⟩

set_option maxHeartbeats 800000 in
theorem cloneB_any (s : Option Addr) (cap : Nat) (bs : List Bool) (w : World) (h : Sl w s (bools bs)) (hl : bs.length ≤ 1000) :
    Calls Try.prog 49 #[.slice s bs.length cap] w fun e w' => ∃ s' c', e = .returned (.slice s' bs.length c') ∧ w'.ownsRow w.heap.size 4 1 (.slice s' bs.length c') bs.length (bools bs) ∧ Below w.heap.size w w' := by
  have hnil : ∀ (W : World) (g : Option Addr) (n c : Nat), (binOp .eql 44 (.slice g n c) (.slice none 0 0)).run Try.prog W = .ok (.bool g.isNone) W := fun W g n c => Lib.run_eql_slice_nil W _ 4 _ n c 0 0 (by kernel_rfl)
  cases s with
  | none =>
    obtain rfl : bs = [] := by
      rcases h with h | ⟨b, off, e, _⟩
      · simpa [bools] using h
      · cases e
    have hn := fun W n c => hnil W none n c
    clear hnil
    simp only [Option.isNone_none] at hn
    go_enter Try.func49, Try.ntmps49
    go_wp2
    go_ret
    exact ⟨none, 0, rfl, World.ownsRow_nil _ _ _ _, Below.refl _ _⟩
  | some ad =>
    have hn := fun W n c => hnil W (some ad) n c
    clear hnil
    simp only [Option.isNone_some] at hn
    have hA := (Below.refl w.heap.size w).alloc (Nat.le_refl _) (.cells #[] 4)
    have ho : (w.alloc (.cells #[] 4)).ownsRow w.heap.size 4 1 (.slice (some ⟨w.heap.size, 0, none⟩) 0 0) 0 [] := own_of_blk (n := 0) (cur := #[]) (blk_new w _) (Nat.le_refl _) (by simp) (by unfold maxLen; omega)
    have HO := Lib.hid (And.intro ho (And.intro hA (h.mono hA)))
    clear ho hA h
    go_enter Try.func49, Try.ntmps49
    go_wp2_with (at_builtin; refine wpl_app rfl _ _ rfl elem_bool HO.out.1 rfl rfl (by simp [bools]) HO.out.2.2 (bools_one bs) bs.length (Nat.zero_add _) (bools bs) rfl (by unfold maxLen; omega) (by omega) (by simp) ?_; intro s3 c3 w3 h3 hb3 _ _; have HA := Lib.hid (And.intro h3 (HO.out.2.1.trans hb3)); clear h3 hb3)
    go_ret
    exact ⟨s3, c3, rfl, HA.out.1, HA.out.2⟩

set_option maxHeartbeats 800000 in
theorem cloneBB_any (s : Option Addr) (cap : Nat) (bs : List Value) (w : World) (h : Sl w s bs) (h1 : ∀ u ∈ bs, u.oneCell' = true) (hl : bs.length ≤ 1000) :
    Calls Try.prog 48 #[.slice s bs.length cap] w fun e w' => ∃ s' c', e = .returned (.slice s' bs.length c') ∧ w'.ownsRow w.heap.size 44 1 (.slice s' bs.length c') bs.length bs ∧ Below w.heap.size w w' := by
  have hnil : ∀ (W : World) (g : Option Addr) (n c : Nat), (binOp .eql 27 (.slice g n c) (.slice none 0 0)).run Try.prog W = .ok (.bool g.isNone) W := fun W g n c => Lib.run_eql_slice_nil W _ 44 _ n c 0 0 (by kernel_rfl)
  cases s with
  | none =>
    obtain rfl : bs = [] := by
      rcases h with h | ⟨b, off, e, _⟩
      · exact h
      · cases e
    have hn := fun W n c => hnil W none n c
    clear hnil
    simp only [Option.isNone_none] at hn
    go_enter Try.func48, Try.ntmps48
    go_wp2
    go_ret
    exact ⟨none, 0, rfl, World.ownsRow_nil _ _ _ _, Below.refl _ _⟩
  | some ad =>
    have hn := fun W n c => hnil W (some ad) n c
    clear hnil
    simp only [Option.isNone_some] at hn
    have hA := (Below.refl w.heap.size w).alloc (Nat.le_refl _) (.cells #[] 44)
    have ho : (w.alloc (.cells #[] 44)).ownsRow w.heap.size 44 1 (.slice (some ⟨w.heap.size, 0, none⟩) 0 0) 0 [] := own_of_blk (n := 0) (cur := #[]) (blk_new w _) (Nat.le_refl _) (by simp) (by unfold maxLen; omega)
    have HO := Lib.hid (And.intro ho (And.intro hA (h.mono hA)))
    clear ho hA h
    go_enter Try.func48, Try.ntmps48
    go_wp2_with (at_builtin; refine wpl_app rfl _ _ rfl elem_bss2 HO.out.1 rfl rfl (by simp) HO.out.2.2 h1 bs.length (Nat.zero_add _) bs rfl (by unfold maxLen; omega) (by omega) (by simp) ?_; intro s3 c3 w3 h3 hb3 _ _; have HA := Lib.hid (And.intro h3 (HO.out.2.1.trans hb3)); clear h3 hb3)
    go_ret
    exact ⟨s3, c3, rfl, HA.out.1, HA.out.2⟩

set_option maxHeartbeats 400000 in
theorem bitsOf_own (x : Int) (n : Nat) (w : World) (h0 : 0 ≤ x) (h1 : x ≤ 1000000) (hn : n ≤ 20) :
    Calls Try.prog 45 #[.int .i64 x, .int .i64 n] w fun e w' => ∃ s, e = .returned (.slice s n n) ∧ w'.ownsRow w.heap.size 4 1 (.slice s n n) n (bools (bitsV x n)) ∧ Below w.heap.size w w' := by
  have hmk := fun w => mkBools w n (by omega)
  go_enter Try.func45, Try.ntmps45
  go_wp2
  go_loopw [11] (fun i wr => ∃ k : Nat, k ≤ n ∧ i = .int .i64 k ∧ wr.heap[w.heap.size]? = some (.cells (bools (bitsV x k ++ List.replicate (n - k) false)).toArray 4 (0, 0)) ∧ Below w.heap.size w wr) (fun i _ => n - (intOf i).toNat)
  case atStart => exact ⟨0, Nat.zero_le _, rfl, blk_new _ _, (Below.refl _ _).alloc (Nat.le_refl _) _⟩
  case round =>
    obtain ⟨k, hk, rfl, hb, hbl⟩ := hrel
    by_cases hlt : k < n
    · have hlen : (bitsV x k ++ List.replicate (n - k) false).length = n := by simp [bitsV_length]; omega
      obtain ⟨y, hy⟩ := get_of_lt (l := bitsV x k ++ List.replicate (n - k) false) (k := k) (by omega)
      have hc := bools_cell hb hy
      have hf : wr.frozen? ⟨w.heap.size, k, none⟩ = false := blk_free hb
      have hpw : (1 : Int) ≤ 2 ^ k := by have : (0 : Int) < 2 ^ k := Int.pow_pos (by decide); omega
      have q1 : 0 ≤ x / 2 ^ k := Int.ediv_nonneg h0 (by omega)
      have q2 : x / 2 ^ k ≤ 1000000 := Int.le_trans (Int.ediv_le_self _ h0) h1
      have hand := i64_and1 (x / 2 ^ k)
      have HR := Lib.hid (And.intro hb (And.intro hbl hpw))
      clear hb hbl hpw hy hlen
      go_wp2
      obtain ⟨hb, hbl, hpw⟩ := HR.out
      go_roundw
      case rel =>
        refine ⟨k + 1, by omega, by go_num, ?_, hbl.setCell (Nat.le_refl _) _⟩
        have := bools_blk_set hb k (decide (x / 2 ^ k % 2 = 1))
        rw [List.set_append_right _ _ (by rw [bitsV_length]; exact Nat.le_refl _), bitsV_length, Nat.sub_self, show n - k = n - (k + 1) + 1 from by omega, List.replicate_succ, List.set_cons_zero] at this
        rw [bitsV_snoc, List.append_assoc]
        exact this
      case measure => simp [intOf]; omega
    · obtain rfl : k = n := by omega
      rw [Nat.sub_self] at hb
      have HR := Lib.hid (And.intro hb hbl)
      clear hb hbl
      go_wp2
      go_ret
      refine ⟨_, rfl, ?_, HR.out.2⟩
      have e := own_of_blk (base := w.heap.size) (size := 1) (n := k) HR.out.1 (Nat.le_refl _) (by simp [bitsV_length]) (by unfold maxLen; omega)
      simpa using e

/-- The step of both circuits. -/
theorem differ_any (a b : Cir) (ba bb : Nat) (sn sg so tn tg to_ : Option Addr) (cn cg co dn dg do_ : Nat) (p q : Int) (x : Nat) (w : World)
    (ha : CirAt w ba a.inp (.slice sn a.next.length cn) (.slice sg a.gates.length cg) (.slice so a.outs.length co)) (a1 : Sl w sn (ints a.next)) (a2 : Sl w sg (gcells a.gates)) (a3 : Sl w so (ints a.outs)) (hva : a.valid)
    (hb : CirAt w bb b.inp (.slice tn b.next.length dn) (.slice tg b.gates.length dg) (.slice to_ b.outs.length do_)) (b1 : Sl w tn (ints b.next)) (b2 : Sl w tg (gcells b.gates)) (b3 : Sl w to_ (ints b.outs)) (hvb : b.valid)
    (p0 : 0 ≤ p) (p1 : p ≤ 100) (q0 : 0 ≤ q) (q1 : q ≤ 100) (hx : x ≤ 100) :
    Calls Try.prog 24 #[pairV (p, q), .int .i64 x, .pointer (some ⟨ba, 0, none⟩), .pointer (some ⟨bb, 0, none⟩)] w fun e w' => e = .returned (.tuple #[pairV (stpD a b (p, q) x), .bool (hitD a b (p, q) x)]) ∧ Below w.heap.size w w' := by
  have HBA : Hid (ba < w.heap.size) := World.block_lt_of_cell? w _ ha.h0
  have HBB : Hid (bb < w.heap.size) := World.block_lt_of_cell? w _ hb.h0
  have H1 : Hid (∀ W, Below w.heap.size w W → Calls Try.prog 25 #[.pointer (some ⟨ba, 0, none⟩), .int .i64 p, .int .i64 x] W fun e w' => e = .returned (.tuple #[.int .i64 (nextN a p x), .int .i64 (outN a p x)]) ∧ Below W.heap.size W w') := fun W hW =>
    cycle_any ba sn sg so cn cg co a p x W ⟨(hW.cell (p := ⟨ba, 0, none⟩) HBA.out).trans ha.h0, (hW.cell (p := ⟨ba, 1, none⟩) HBA.out).trans ha.h1, (hW.cell (p := ⟨ba, 2, none⟩) HBA.out).trans ha.h2, (hW.cell (p := ⟨ba, 3, none⟩) HBA.out).trans ha.h3⟩ (a1.mono hW) (a2.mono hW) (a3.mono hW) hva p0 (by omega) (by omega) (by omega)
  have H2 : Hid (∀ W, Below w.heap.size w W → Calls Try.prog 25 #[.pointer (some ⟨bb, 0, none⟩), .int .i64 q, .int .i64 x] W fun e w' => e = .returned (.tuple #[.int .i64 (nextN b q x), .int .i64 (outN b q x)]) ∧ Below W.heap.size W w') := fun W hW =>
    cycle_any bb tn tg to_ dn dg do_ b q x W ⟨(hW.cell (p := ⟨bb, 0, none⟩) HBB.out).trans hb.h0, (hW.cell (p := ⟨bb, 1, none⟩) HBB.out).trans hb.h1, (hW.cell (p := ⟨bb, 2, none⟩) HBB.out).trans hb.h2, (hW.cell (p := ⟨bb, 3, none⟩) HBB.out).trans hb.h3⟩ (b1.mono hW) (b2.mono hW) (b3.mono hW) hvb q0 (by omega) (by omega) (by omega)
  obtain ⟨W0, hW0⟩ : ∃ W0, W0 = ((w.alloc (.cells #[.int .i64 p, .int .i64 q] 51)).alloc (.cells #[.int .i64 0, .int .i64 0] 51)) := ⟨_, rfl⟩
  have z1 : W0.heap[w.heap.size]? = some (.cells #[.int .i64 p, .int .i64 q] 51 (0, 0)) := by rw [hW0]; exact blk_old (blk_new _ _)
  have z2 : W0.heap[w.heap.size + 1]? = some (.cells #[.int .i64 0, .int .i64 0] 51 (0, 0)) := by rw [hW0]; exact blk_at (by simp)
  have z3 : Below w.heap.size w W0 := by rw [hW0]; go_grown
  obtain ⟨na, hna⟩ : ∃ z, z = nextN a p x := ⟨_, rfl⟩
  obtain ⟨nb, hnb⟩ : ∃ z, z = nextN b q x := ⟨_, rfl⟩
  obtain ⟨oa, hoa⟩ : ∃ z, z = outN a p x := ⟨_, rfl⟩
  obtain ⟨ob, hob⟩ : ∃ z, z = outN b q x := ⟨_, rfl⟩
  have e1 : pairV (stpD a b (p, q) x) = .agg #[.int .i64 na, .int .i64 nb] := by rw [hna, hnb]; rfl
  have e2 : hitD a b (p, q) x = !decide (oa = ob) := by rw [hoa, hob]; rfl
  rw [e1, e2]
  have HN := Lib.hid (And.intro hna (And.intro hnb (And.intro hoa hob)))
  have HW := Lib.hid (And.intro hW0 (And.intro z1 (And.intro z2 z3)))
  clear ha a1 a2 a3 hb b1 b2 b3 hW0 z1 z2 z3 hna hnb hoa hob e1 e2
  show Calls Try.prog (24) #[.agg #[.int .i64 p, .int .i64 q], .int .i64 x, .pointer (some ⟨ba, 0, none⟩), .pointer (some ⟨bb, 0, none⟩)] w _
  go_enter Try.func24, Try.ntmps24
  go_upto_region 1 with fail
  rw [← HW.out.1]
  have cp := (blk_all HW.out.2.1).1
  go_upto_region 2 with (go_at_call 25; ((with_reducible refine (H1.out _ HW.out.2.2.2).mono ?_); rintro e w1 ⟨rfl, hq⟩; rw [← HN.out.1, ← HN.out.2.2.1]; have K1 := Lib.hid (And.intro (blk_below hq (blk_lt HW.out.2.1) HW.out.2.1) (And.intro (blk_below hq (blk_lt HW.out.2.2.1) HW.out.2.2.1) (HW.out.2.2.2.trans (hq.mono HW.out.2.2.2.size)))); clear hq cp; have cp := (blk_all K1.out.1).1))
  go_upto_region 3 with (go_at_call 25; ((with_reducible refine (H2.out _ K1.out.2.2).mono ?_); rintro e w2 ⟨rfl, hq⟩; rw [← HN.out.2.1, ← HN.out.2.2.2]; have K2 := Lib.hid (And.intro (blk_below hq (blk_lt K1.out.2.1) K1.out.2.1) (K1.out.2.2.trans (hq.mono K1.out.2.2.size))); clear hq cp; obtain ⟨rc, rf⟩ := blk_all K2.out.1))
  go_wp2_with fail
  clear rc rf
  have hZ : ((w2.setCell ⟨w.heap.size + 1, 0, none⟩ (.int .i64 na)).setCell ⟨w.heap.size + 1, 1, none⟩ (.int .i64 nb)).heap[w.heap.size + 1]? = some (.cells #[.int .i64 na, .int .i64 nb] 51 (0, 0)) := by
    simpa using blk_set (o := 1) (v := .int .i64 nb) (blk_set (o := 0) (v := .int .i64 na) K2.out.1)
  have hbz := (K2.out.2.setCell (p := ⟨w.heap.size + 1, 0, none⟩) (by simp) (.int .i64 na)).setCell (p := ⟨w.heap.size + 1, 1, none⟩) (by simp) (.int .i64 nb)
  revert hZ hbz
  generalize ((w2.setCell ⟨w.heap.size + 1, 0, none⟩ (.int .i64 na)).setCell ⟨w.heap.size + 1, 1, none⟩ (.int .i64 nb)) = WZ
  intro hZ hbz
  have cr := (blk_all hZ).1
  exact bodyPost_ret (v := .tuple #[.agg #[.int .i64 na, .int .i64 nb], .bool (!decide (oa = ob))]) (by simp [results, Try.results24, go_sem, cr]; by_cases h : oa = ob <;> simp [h]) rfl ⟨rfl, hbz⟩

end Go.Proofs.Ytgadinaninkmoaa
