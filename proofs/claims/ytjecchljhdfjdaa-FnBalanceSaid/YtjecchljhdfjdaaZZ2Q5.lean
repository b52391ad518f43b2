import Derived.Test.YtjecchljhdfjdaaZZ2S1
namespace Go.Proofs.Ytjecchljhdfjdaa
set_option linter.unusedVariables false
set_option linter.unusedSimpArgs false
open Go.RowKit

/-! Part of the proof of one law. -/

def LsPost (ys : List Int) (w : World) (e : Ending) (w' : World) : Prop :=
  ∃ s c', e = .returned (.slice s ys.length c') ∧ w'.ownsRow w.heap.size 3 1 (.slice s ys.length c') ys.length (ints ys) ∧ Below w.heap.size w w'

theorem use_operand {c : Cir} {i : Nat} {g : Gt} (hg : c.gates[i]? = some g) : 1 ≤ cntL c.usesI (g.a / 2) ∧ 1 ≤ cntL c.usesI (g.b / 2) := by
  have hm := List.mem_of_getElem? hg
  have h : ∀ l, l ∈ glits c.gates → 1 ≤ cntL c.usesI (l / 2) := fun l hl => by
    unfold cntL Cir.usesI
    refine List.length_pos_iff.2 (List.ne_nil_of_mem (a := l) ?_)
    simp [hl]
  exact ⟨h _ (List.mem_flatMap.2 ⟨g, hm, by simp⟩), h _ (List.mem_flatMap.2 ⟨g, hm, by simp⟩)⟩

theorem own_lit1 (w : World) (l : Int) (base : Nat) (hb : base ≤ w.heap.size) : (w.alloc (.cells #[.int .i64 l] 3)).ownsRow base 3 1 (.slice (some ⟨w.heap.size, 0, none⟩) 1 1) 1 (ints [l]) :=
  World.ownsRow_lit w #[.int .i64 l] 1 hb (by unfold maxLen; omega) (by simp)

set_option maxHeartbeats 800000 in
theorem l19_leaf (c : Cir) (hv : c.valid) (l : Int) (h0 : 0 ≤ l) (hlV : l / 2 < c.vars) (ho : ¬ oneP c l) (hu : 1 ≤ cntL c.usesI (l / 2)) (w : World) (v : Value) (h : CirV w v c) :
    Calls Try.prog 45 #[v, .int .i64 l, .bool false] w (LsPost [l] w) := by
  have HC : Hid (∀ w', Below w.heap.size w w' → CirV w' v c) := fun w' hb => h.mono hb
  obtain ⟨sn, cn, sg, cg, so, co, rfl, h1, h2, h3, hl1, hl2, hl3⟩ := h
  obtain ⟨f1, f2, f3, f4⟩ := valid_first hv
  obtain ⟨q1, q2, q3, q4, q5⟩ := id hv.lim
  have hL : Below w.heap.size w (w.alloc (.cells #[.int .i64 c.inp, .slice sn c.next.length cn, .slice sg c.gates.length cg, .slice so c.outs.length co] 28)) := by go_grown
  have hN := blk_new w (.cells #[.int .i64 c.inp, .slice sn c.next.length cn, .slice sg c.gates.length cg, .slice so c.outs.length co] 28)
  have HL := Lib.hid (And.intro hL (And.intro hN hv))
  have hl50 : l ≤ 50 := by omega
  obtain ⟨F, hF⟩ : ∃ F : Nat, c.first = F := ⟨c.first.toNat, by omega⟩
  have e1 : 1 + c.inp + (c.next.length : Int) = (F : Int) := by rw [← hF]; rfl
  have E1 := Lib.hid e1
  have hF8 : (F : Int) ≤ 8 := by omega
  have hcs : l / 2 < F ∨ ((F : Int) ≤ l / 2 ∧ l % 2 = 1) ∨ ((F : Int) ≤ l / 2 ∧ l % 2 = 0 ∧ 1 < cntL c.usesI (l / 2)) := by
    unfold oneP at ho
    rw [hF] at ho
    by_cases a1 : l / 2 < F
    · exact .inl a1
    · by_cases a2 : l % 2 = 1
      · exact .inr (.inl ⟨by omega, a2⟩)
      · exact .inr (.inr ⟨by omega, by omega, by
          have : ¬ cntL c.usesI (l / 2) = 1 := fun e => ho ⟨by omega, by omega, e⟩
          omega⟩)
  have HH := Lib.hid hcs
  clear hL hN h1 h2 h3 hv f1 f2 f3 f4 hlV ho hu hF e1 hcs
  have armF : True := trivial
  rcases HH.out with a1 | ⟨a1, a2⟩ | ⟨a1, a2, a3⟩
  · go_enter Try.func45, Try.ntmps45
    go_wp2_with (go_at_call 44; ((refine (l1First_any _ _ _ _ _ _ _ (by omega) (by omega)).mono ?_); rintro e w1 ⟨rfl, hq⟩; rw [E1.out]; have HQ := Lib.hid (HL.out.1.trans (hq.mono (by simp))); clear hq))
    go_ret
    exact ⟨_, _, rfl, own_lit1 _ _ _ HQ.out.size, HQ.out.alloc HQ.out.size _⟩
  · have b2 : ((l % 2 : Int) == 1) = true := by simpa using a2
    have A2 := Lib.hid a2
    clear a2
    go_enter Try.func45, Try.ntmps45
    go_wp2_with (go_at_call 44; ((refine (l1First_any _ _ _ _ _ _ _ (by omega) (by omega)).mono ?_); rintro e w1 ⟨rfl, hq⟩; rw [E1.out]; have HQ := Lib.hid (HL.out.1.trans (hq.mono (by simp))); clear hq))
    go_ret
    exact ⟨_, _, rfl, own_lit1 _ _ _ HQ.out.size, HQ.out.alloc HQ.out.size _⟩
  · have b2 : ((l % 2 : Int) == 1) = false := beq_eq_false_iff_ne.2 (by omega)
    have A2 := Lib.hid a2
    have A3 := Lib.hid a3
    clear a2 a3
    go_enter Try.func45, Try.ntmps45
    go_wp2_with (first
      | (go_at_call 44; ((refine (l1First_any _ _ _ _ _ _ _ (by omega) (by omega)).mono ?_); rintro e w1 ⟨rfl, hq⟩; rw [E1.out]; have HQ := Lib.hid (And.intro (HL.out.1.trans (hq.mono (by simp))) (blk_below hq (blk_lt HL.out.2.1) HL.out.2.1)); have ca := (blk_all HQ.out.2).1; clear hq))
      | (go_at_call 82; ((refine (l19Uses_any _ _ _ _ (HC.out _ HQ.out.1) HL.out.2.2).mono ?_); rintro e w2 ⟨q, rfl, hq, hb⟩; have hq1 : (1 : Int) < (q : Int) := (by rw [hq]; have := A3.out; omega); have HQ2 := Lib.hid (HQ.out.1.trans (hb.mono HQ.out.1.size)); clear hq hb)))
    go_ret
    exact ⟨_, _, rfl, own_lit1 _ _ _ HQ2.out.size, HQ2.out.alloc HQ2.out.size _⟩

set_option maxHeartbeats 4000000 in
theorem l19_gate (c : Cir) (hv : c.valid) : ∀ (i : Nat), i < c.gates.length → ∀ (l : Int) (root : Bool), 0 ≤ l → l / 2 = c.first + i → l % 2 = 0 → (root = false → cntL c.usesI (l / 2) = 1) →
    ∀ (w : World) (v : Value), CirV w v c → Calls Try.prog 45 #[v, .int .i64 l, .bool root] w (LsPost (Lv c i) w) := by
  intro i
  induction i using Nat.strongRecOn with
  | ind i ih =>
    intro hi l root hl0 hl2 hl3 hr w v h
    have HC : Hid (∀ w', Below w.heap.size w w' → CirV w' v c) := fun w' hb => h.mono hb
    obtain ⟨g, hgi⟩ := get_of_lt hi
    obtain ⟨f1, f2, f3, f4⟩ := valid_first hv
    obtain ⟨q1, q2, q3, q4, q5⟩ := id hv.lim
    obtain ⟨⟨a1, a2⟩, b1, b2⟩ := valid_gate hv hgi
    obtain ⟨ua, ub⟩ := use_operand hgi
    have hop : ∀ l', 0 ≤ l' → l' / 2 < c.first + i → 1 ≤ cntL c.usesI (l' / 2) → ∀ (w : World) (v : Value), CirV w v c → Calls Try.prog 45 #[v, .int .i64 l', .bool false] w (LsPost (lvP c l') w) := fun l' h0 h1 h2 w v hc => by
      unfold lvP
      by_cases ho : oneP c l'
      · rw [if_pos ho]
        have hj := oneP_lt ho h1
        exact ih _ hj (by omega) l' false h0 (by have := ho.2.1; omega) ho.1 (fun _ => ho.2.2) w v hc
      · rw [if_neg ho]
        exact l19_leaf c hv l' h0 (by omega) ho h2 w v hc
    have la := lvP_len a2
    have lb := lvP_len b2
    have hpow : 2 ^ i ≤ 2 ^ 14 := Nat.pow_le_pow_right (by omega) (by omega)
    have hL : Lv c i = lvP c g.a ++ lvP c g.b := Lv_eq hv hgi
    rw [hL]
    have hA := hop g.a a1 a2 ua
    have hB := hop g.b b1 b2 ub
    obtain ⟨sn, cn, sg, cg, so, co, rfl, h1, h2, h3, hl1, hl2', hl3'⟩ := h
    obtain ⟨gb, goff, rfl, hgb, z1, z2⟩ := h2.gate (Below.refl _ _) hgi
    obtain ⟨F, hF⟩ : ∃ F : Nat, c.first = F := ⟨c.first.toNat, by omega⟩
    have e1 : 1 + c.inp + (c.next.length : Int) = (F : Int) := by rw [← hF]; rfl
    have E1 := Lib.hid e1
    have hF8 : (F : Int) ≤ 8 ∧ (0 : Int) ≤ F := by omega
    obtain ⟨hF8, hF0⟩ := hF8
    have hl50 : l ≤ 100 := by omega
    have hln : l / 2 = (F : Int) + i := by rw [hl2, hF]
    have b2' : ((l % 2 : Int) == 1) = false := beq_eq_false_iff_ne.2 (by omega)
    have hL : Below w.heap.size w (w.alloc (.cells #[.int .i64 c.inp, .slice sn c.next.length cn, .slice (some ⟨gb, goff, none⟩) c.gates.length cg, .slice so c.outs.length co] 28)) := by go_grown
    have hN := blk_new w (.cells #[.int .i64 c.inp, .slice sn c.next.length cn, .slice (some ⟨gb, goff, none⟩) c.gates.length cg, .slice so c.outs.length co] 28)
    have HL := Lib.hid (And.intro hL (And.intro hN (And.intro hv (And.intro hA (And.intro hB (And.intro la (And.intro lb hpow)))))))
    have HG := Lib.hid (And.intro z1 z2)
    have i0 : (0 : Int) ≤ (i : Int) := by omega
    have i1 : (i : Int) < (c.gates.length : Int) := by omega
    have hu1 : root = false → cntL c.usesI (l / 2) = 1 := hr
    clear hL hN h1 h2 h3 hv f1 f2 f3 f4 ua ub hA hB hop ih la lb hpow e1 a2 b2 hgi hl2 hl3 z1 z2 hr hF
    cases root
    · have hu2 : cntL c.usesI ((F : Int) + i) = 1 := by rw [← hln]; exact hu1 rfl
      have HU := Lib.hid hu2
      clear hu2
      clear hu1
      go_enter Try.func45, Try.ntmps45
      go_wp2_with (first
        | (go_at_call 44; ((refine (l1First_any _ _ _ _ _ _ _ (by omega) (by omega)).mono ?_); rintro e w1 ⟨rfl, hq⟩; rw [E1.out]; have HQ := Lib.hid (And.intro (HL.out.1.trans (hq.mono (by simp))) (And.intro (blk_below hq (blk_lt HL.out.2.1) HL.out.2.1) (show w.heap.size < w1.heap.size by have := hq.size; simp at this; omega))); have ca := (blk_all HQ.out.2.1).1; clear hq))
        | (go_at_call 82; ((refine (l19Uses_any _ _ _ _ (HC.out _ HQ.out.1) HL.out.2.2.1).mono ?_); rintro e w2 ⟨q, rfl, hq, hb⟩; have hq1 : ¬ (1 : Int) < (q : Int) := (by rw [hq]; have := HU.out; omega); have HQ := Lib.hid (And.intro (HQ.out.1.trans (hb.mono HQ.out.1.size)) (And.intro (blk_below hb (blk_lt HQ.out.2.1) HQ.out.2.1) (show w.heap.size < w2.heap.size by have := HQ.out.2.2; have := hb.size; omega))); clear ca; have ca := (blk_all HQ.out.2.1).1; clear hq hb)))
      have hws := HQ.out.2.2
      have hw0 := HQ.out.1.size
      obtain ⟨z1, z2⟩ : w2.cell? ⟨gb, goff + i * 2, none⟩ = some (.int .i64 g.a) ∧ w2.cell? ⟨gb, goff + i * 2 + 1, none⟩ = some (.int .i64 g.b) := ⟨(HQ.out.1.cell (p := ⟨gb, goff + i * 2, none⟩) (by simp; omega)).trans HG.out.1, (HQ.out.1.cell (p := ⟨gb, goff + i * 2 + 1, none⟩) (by simp; omega)).trans HG.out.2⟩
      have hwr : IntKind.i64.wrap ((F : Int) + (i : Int) - (F : Int)) = (i : Int) := by rw [IntWalk.i64_in _ ⟨by omega, by omega⟩]; omega
      go_cut [8] from 32 to 39 (fun s8 wx => ∃ g' : Nat, s8 = .pointer (some ⟨g', 0, none⟩) ∧ w2.heap.size ≤ g' ∧ wx.heap[g']? = some (.cells #[.int .i64 g.a, .int .i64 g.b] 24 (0, 0)) ∧ Below w2.heap.size w2 wx)
      case first =>
        refine wp_region_T (fun w' => (∀ o, w'.cell? ⟨w.heap.size, o, none⟩ = #[Value.int .i64 c.inp, Value.slice sn c.next.length cn, Value.slice (some ⟨gb, goff, none⟩) c.gates.length cg, Value.slice so c.outs.length co][o]?) ∧ w'.cell? ⟨gb, goff + i * 2, none⟩ = some (.int .i64 g.a) ∧ w'.cell? ⟨gb, goff + i * 2 + 1, none⟩ = some (.int .i64 g.b)) (.q 0 (.q 1 (.q 2 (.q 3 (.two 4 (.q 5 (.q 6 (.q 7 (.e 8 (.e 9 .nil))))) 8 (.e 4 (.q 5 (.q 6 (.q 7 (.e 9 .nil)))))))))) (by kernel_rfl) (by kernel_rfl) (by kernel_rfl) ⟨ca, z1, z2⟩ ?_
        repeat (first | (refine ordt_s (o := ?_) ?_ ?_ ?_; rotate_left 1; (focus ((simp only [zD, zE, zF]) <;> rfl)); (focus rfl); simp only [Act.put, zA, zB, zC]) | (refine ordt_q (o := ?_) (v := ?_) ?_ ?_ ?_ ?_; rotate_left 2; (focus ((simp only [zD, zE, zF]) <;> rfl)); (focus rfl); (focus (intro w' hS; (try dsimp only at hS); go_split_ands; go_simp; (try (with_reducible rfl)))); simp only [Act.put, zA, zB, zC]))
        refine ordt_two ?_ ?_
        · (refine op_e (o := ?_) ?_ ?_ (fun K hK => ?_); rotate_left 1; (focus ((simp only [zD, zE, zF]) <;> rfl)); (focus rfl); go_simp)
          refine (l1First_any _ _ _ _ _ _ _ (by omega) (by omega)).mono ?_
          rintro e wa ⟨rfl, hq⟩
          rw [E1.out]
          have hb : Below w2.heap.size w2 wa := (Below.refl _ _).drew.trans hq
          refine hK.out _ _ ⟨(blk_all (blk_below hb (by omega) HQ.out.2.1)).1, (hb.cell (p := ⟨gb, goff + i * 2, none⟩) (by simp; omega)).trans z1, (hb.cell (p := ⟨gb, goff + i * 2 + 1, none⟩) (by simp; omega)).trans z2⟩ ?_
          clear hK K hq
          have HA := Lib.hid hb
          clear hb
          (try simp only [Act.put, zA, zB, zC])
          repeat (first | (refine ordt_s (o := ?_) ?_ ?_ ?_; rotate_left 1; (focus ((simp only [zD, zE, zF]) <;> rfl)); (focus rfl); simp only [Act.put, zA, zB, zC]) | (refine ordt_q (o := ?_) (v := ?_) ?_ ?_ ?_ ?_; rotate_left 2; (focus ((simp only [zD, zE, zF]) <;> rfl)); (focus rfl); (focus (intro w' hS; (try dsimp only at hS); go_split_ands; go_simp; (try (with_reducible rfl)))); simp only [Act.put, zA, zB, zC]))
          refine ordt_e ?_
          (refine op_e (o := ?_) ?_ ?_ (fun K hK => ?_); rotate_left 1; (focus ((simp only [zD, zE, zF]) <;> rfl)); (focus rfl); go_simp)
          have hb1 := HA.out.alloc HA.out.size (.cells #[.int .i64 0, .int .i64 0] 24)
          have hn := blk_new wa (.cells #[.int .i64 0, .int .i64 0] 24)
          have hga := HA.out.size
          revert hb1 hn
          generalize wa.alloc (.cells #[.int .i64 0, .int .i64 0] 24) = Wb
          intro hb1 hn
          refine hK.out _ _ ⟨(blk_all (blk_below hb1 (by omega) HQ.out.2.1)).1, (hb1.cell (p := ⟨gb, goff + i * 2, none⟩) (by simp; omega)).trans z1, (hb1.cell (p := ⟨gb, goff + i * 2 + 1, none⟩) (by simp; omega)).trans z2⟩ ?_
          clear hK K
          have k0 : Wb.cell? ⟨wa.heap.size, 0, none⟩ = some (.int .i64 0) := blk_cell hn
          have k1 : Wb.cell? ⟨wa.heap.size, 1, none⟩ = some (.int .i64 0) := blk_cell hn
          have k2 : Wb.frozen? ⟨wa.heap.size, 0, none⟩ = false := blk_free hn
          have k3 : Wb.frozen? ⟨wa.heap.size, 1, none⟩ = false := blk_free hn
          have HB := Lib.hid (And.intro hb1 hn)
          clear hb1 hn
          (try simp only [Act.put, zA, zB, zC])

          refine ordt_e ?_
          (refine op_e (o := ?_) ?_ ?_ (fun K hK => ?_); rotate_left 1; (focus ((simp only [zD, zE, zF]) <;> rfl)); (focus rfl); go_simp)
          have hn := blk_set (o := 1) (v := .int .i64 g.b) (blk_set (o := 0) (v := .int .i64 g.a) HB.out.2)
          have hb1 := (HB.out.1.setCell (p := ⟨wa.heap.size, 0, none⟩) hga (.int .i64 g.a)).setCell (p := ⟨wa.heap.size, 1, none⟩) hga (.int .i64 g.b)
          clear k0 k1 k2 k3
          revert hn hb1
          generalize (Wb.setCell ⟨wa.heap.size, 0, none⟩ (.int .i64 g.a)).setCell ⟨wa.heap.size, 1, none⟩ (.int .i64 g.b) = Wc
          intro hn hb1
          refine hK.out _ _ ⟨(blk_all (blk_below hb1 (by omega) HQ.out.2.1)).1, (hb1.cell (p := ⟨gb, goff + i * 2, none⟩) (by simp; omega)).trans z1, (hb1.cell (p := ⟨gb, goff + i * 2 + 1, none⟩) (by simp; omega)).trans z2⟩ ?_
          clear hK K
          have HC2 := Lib.hid (And.intro hn hb1)
          clear hn hb1
          (try simp only [Act.put, zA, zB, zC])
          refine ordt_nil ?_
          go_wp2_with fail
          go_meet
          exact ⟨wa.heap.size, rfl, hga, HC2.out.1, HC2.out.2⟩
        · (refine op_e (o := ?_) ?_ ?_ (fun K hK => ?_); rotate_left 1; (focus ((simp only [zD, zE, zF]) <;> rfl)); (focus rfl); go_simp)
          have hb1 : Below w2.heap.size w2 (w2.alloc (.cells #[.int .i64 0, .int .i64 0] 24)).drew := ((Below.refl _ _).alloc (Nat.le_refl _) _).drew
          have hn : (w2.alloc (.cells #[.int .i64 0, .int .i64 0] 24)).drew.heap[w2.heap.size]? = some (.cells #[.int .i64 0, .int .i64 0] 24 (0, 0)) := blk_new w2 _
          revert hb1 hn
          generalize (w2.alloc (.cells #[.int .i64 0, .int .i64 0] 24)).drew = Wb0
          intro hb1 hn
          refine hK.out _ _ ⟨(blk_all (blk_below hb1 (by omega) HQ.out.2.1)).1, (hb1.cell (p := ⟨gb, goff + i * 2, none⟩) (by simp; omega)).trans z1, (hb1.cell (p := ⟨gb, goff + i * 2 + 1, none⟩) (by simp; omega)).trans z2⟩ ?_
          clear hK K
          have HA := Lib.hid (And.intro hb1 hn)
          clear hb1 hn
          (try simp only [Act.put, zA, zB, zC])
          refine ordt_e ?_
          (refine op_e (o := ?_) ?_ ?_ (fun K hK => ?_); rotate_left 1; (focus ((simp only [zD, zE, zF]) <;> rfl)); (focus rfl); go_simp)
          refine (l1First_any _ _ _ _ _ _ _ (by omega) (by omega)).mono ?_
          rintro e Wb ⟨rfl, hq⟩
          rw [E1.out]
          have hb1 : Below w2.heap.size w2 Wb := HA.out.1.trans (hq.mono HA.out.1.size)
          have hn := blk_below hq (blk_lt HA.out.2) HA.out.2
          have hga := Nat.le_refl w2.heap.size
          refine hK.out _ _ ⟨(blk_all (blk_below hb1 (by omega) HQ.out.2.1)).1, (hb1.cell (p := ⟨gb, goff + i * 2, none⟩) (by simp; omega)).trans z1, (hb1.cell (p := ⟨gb, goff + i * 2 + 1, none⟩) (by simp; omega)).trans z2⟩ ?_
          clear hK K hq
          have k0 : Wb.cell? ⟨w2.heap.size, 0, none⟩ = some (.int .i64 0) := blk_cell hn
          have k1 : Wb.cell? ⟨w2.heap.size, 1, none⟩ = some (.int .i64 0) := blk_cell hn
          have k2 : Wb.frozen? ⟨w2.heap.size, 0, none⟩ = false := blk_free hn
          have k3 : Wb.frozen? ⟨w2.heap.size, 1, none⟩ = false := blk_free hn
          have HB := Lib.hid (And.intro hb1 hn)
          clear hb1 hn
          (try simp only [Act.put, zA, zB, zC])
          repeat (first | (refine ordt_s (o := ?_) ?_ ?_ ?_; rotate_left 1; (focus ((simp only [zD, zE, zF]) <;> rfl)); (focus rfl); simp only [Act.put, zA, zB, zC]) | (refine ordt_q (o := ?_) (v := ?_) ?_ ?_ ?_ ?_; rotate_left 2; (focus ((simp only [zD, zE, zF]) <;> rfl)); (focus rfl); (focus (intro w' hS; (try dsimp only at hS); go_split_ands; go_simp; (try (with_reducible rfl)))); simp only [Act.put, zA, zB, zC]))
          refine ordt_e ?_
          (refine op_e (o := ?_) ?_ ?_ (fun K hK => ?_); rotate_left 1; (focus ((simp only [zD, zE, zF]) <;> rfl)); (focus rfl); go_simp)
          have hn := blk_set (o := 1) (v := .int .i64 g.b) (blk_set (o := 0) (v := .int .i64 g.a) HB.out.2)
          have hb1 := (HB.out.1.setCell (p := ⟨w2.heap.size, 0, none⟩) hga (.int .i64 g.a)).setCell (p := ⟨w2.heap.size, 1, none⟩) hga (.int .i64 g.b)
          clear k0 k1 k2 k3
          revert hn hb1
          generalize (Wb.setCell ⟨w2.heap.size, 0, none⟩ (.int .i64 g.a)).setCell ⟨w2.heap.size, 1, none⟩ (.int .i64 g.b) = Wc
          intro hn hb1
          refine hK.out _ _ ⟨(blk_all (blk_below hb1 (by omega) HQ.out.2.1)).1, (hb1.cell (p := ⟨gb, goff + i * 2, none⟩) (by simp; omega)).trans z1, (hb1.cell (p := ⟨gb, goff + i * 2 + 1, none⟩) (by simp; omega)).trans z2⟩ ?_
          clear hK K
          have HC2 := Lib.hid (And.intro hn hb1)
          clear hn hb1
          (try simp only [Act.put, zA, zB, zC])
          refine ordt_nil ?_
          go_wp2_with fail
          go_meet
          exact ⟨w2.heap.size, rfl, hga, HC2.out.1, HC2.out.2⟩
      case rest =>
        obtain ⟨g', rfl, hg', hn, hb⟩ := hcut
        have hbw := HQ.out.1.trans (hb.mono HQ.out.1.size)
        have HR := Lib.hid (And.intro hbw (And.intro hn (blk_below hb (blk_lt HQ.out.2.1) HQ.out.2.1)))
        clear ca z1 z2 hb hbw hn hwr
        go_wp2_with fail
        refine wp_region_T (fun w' => (∀ o, w'.cell? ⟨w.heap.size, o, none⟩ = #[Value.int .i64 c.inp, Value.slice sn c.next.length cn, Value.slice (some ⟨gb, goff, none⟩) c.gates.length cg, Value.slice so c.outs.length co][o]?) ∧ w'.cell? ⟨g', 0, none⟩ = some (.int .i64 g.a) ∧ w'.cell? ⟨g', 1, none⟩ = some (.int .i64 g.b)) (.q 0 (.q 1 (.q 2 (.q 4 (.q 5 (.q 6 (.e 3 (.e 7 (.e 8 (.q 9 .nil)))))))))) (by kernel_rfl) (by kernel_rfl) (by kernel_rfl) ⟨(blk_all HR.out.2.2).1, blk_cell HR.out.2.1, blk_cell HR.out.2.1⟩ ?_
        repeat (first | (refine ordt_s (o := ?_) ?_ ?_ ?_; rotate_left 1; (focus ((simp only [zD, zE, zF]) <;> rfl)); (focus rfl); simp only [Act.put, zA, zB, zC]) | (refine ordt_q (o := ?_) (v := ?_) ?_ ?_ ?_ ?_; rotate_left 2; (focus ((simp only [zD, zE, zF]) <;> rfl)); (focus rfl); (focus (intro w' hS; (try dsimp only at hS); go_split_ands; go_simp; (try (with_reducible rfl)))); simp only [Act.put, zA, zB, zC]))
        refine ordt_e ?_
        (refine op_e (o := ?_) ?_ ?_ (fun K hK => ?_); rotate_left 1; (focus ((simp only [zD, zE, zF]) <;> rfl)); (focus rfl); go_simp)
        refine (HL.out.2.2.2.1 _ _ ((HC.out _ HR.out.1).mono (Below.refl _ _).drew)).mono ?_
        rintro e wA ⟨sA, cA, rfl, hoA, hbA⟩
        have hb2 : Below wc.heap.size wc wA := (Below.refl _ _).drew.trans hbA
        have hgl := blk_lt HR.out.2.1
        have hwl := blk_lt HR.out.2.2
        refine hK.out _ _ ⟨(blk_all (blk_below hb2 hwl HR.out.2.2)).1, blk_cell (blk_below hb2 hgl HR.out.2.1), blk_cell (blk_below hb2 hgl HR.out.2.1)⟩ ?_
        clear hK K
        have HA := Lib.hid (And.intro (HR.out.1.trans (hb2.mono HR.out.1.size)) (And.intro (blk_below hb2 hwl HR.out.2.2) (And.intro (blk_below hb2 hgl HR.out.2.1) hoA)))
        have hszA := hb2.size
        clear hbA hb2 hoA
        (try simp only [Act.put, zA, zB, zC])
        refine ordt_e ?_
        (refine op_e (o := ?_) ?_ ?_ (fun K hK => ?_); rotate_left 1; (focus ((simp only [zD, zE, zF]) <;> rfl)); (focus rfl); go_simp)
        refine (HL.out.2.2.2.2.1 _ _ (HC.out _ HA.out.1)).mono ?_
        rintro e wB ⟨sB, cB, rfl, hoB, hbB⟩
        refine hK.out _ _ ⟨(blk_all (blk_below hbB (blk_lt HA.out.2.1) HA.out.2.1)).1, blk_cell (blk_below hbB (blk_lt HA.out.2.2.1) HA.out.2.2.1), blk_cell (blk_below hbB (blk_lt HA.out.2.2.1) HA.out.2.2.1)⟩ ?_
        clear hK K
        have HB2 := Lib.hid (And.intro (HA.out.1.trans (hbB.mono HA.out.1.size)) (And.intro (blk_below hbB (blk_lt HA.out.2.1) HA.out.2.1) (And.intro (blk_below hbB (blk_lt HA.out.2.2.1) HA.out.2.2.1) (And.intro (own_below HA.out.2.2.2 hbB) (And.intro (own_sl hoB) (show wc.heap.size ≤ wB.heap.size by have h1 := HA.out.2.2.2.2; have h2 := hbB.size; have h3 := hszA; omega))))))
        clear hbB hoB
        (try simp only [Act.put, zA, zB, zC])
        refine ordt_e ?_
        (refine op_e (o := ?_) ?_ ?_ (fun K hK => ?_); rotate_left 1; (focus ((simp only [zD, zE, zF]) <;> rfl)); (focus rfl))
        have lA : (lvP c g.a).length ≤ 100000 := by have h1 := HL.out.2.2.2.2.2; omega
        have lB : (lvP c g.b).length ≤ 100000 := by have h1 := HL.out.2.2.2.2.2; omega
        refine wp_app (.tmp 43) (.tmp 47) rfl elem_int (own_base HB2.out.2.2.2.1 (Nat.le_refl wc.heap.size)) rfl rfl (by simp) HB2.out.2.2.2.2.1 (ints_one _) ((lvP c g.a).length + (lvP c g.b).length) rfl (ints (lvP c g.a ++ lvP c g.b)) (by rw [ints_append]) (by unfold maxLen; omega) (by omega) (by have := HB2.out.2.2.2.1; exact HB2.out.2.2.2.2.2) ?_
        intro s5 c5 W5 ho5 hb5 _ _
        have hbE := HB2.out.1.trans (hb5.mono HR.out.1.size)
        refine hK.out _ _ ⟨(blk_all (blk_below hb5 hwl HB2.out.2.1)).1, blk_cell (blk_below hb5 hgl HB2.out.2.2.1), blk_cell (blk_below hb5 hgl HB2.out.2.2.1)⟩ ?_
        clear hK K
        have H5 := Lib.hid (And.intro (own_base ho5 HR.out.1.size) hbE)
        clear ho5 hb5 hbE
        (try simp only [Act.put, zA, zB, zC])
        repeat (first | (refine ordt_s (o := ?_) ?_ ?_ ?_; rotate_left 1; (focus ((simp only [zD, zE, zF]) <;> rfl)); (focus rfl); simp only [Act.put, zA, zB, zC]) | (refine ordt_q (o := ?_) (v := ?_) ?_ ?_ ?_ ?_; rotate_left 2; (focus ((simp only [zD, zE, zF]) <;> rfl)); (focus rfl); (focus (intro w' hS; (try dsimp only at hS); go_split_ands; go_simp; (try (with_reducible rfl)))); simp only [Act.put, zA, zB, zC]))
        refine ordt_nil ?_
        go_wp2_with fail
        go_ret
        have hl : (lvP c g.a ++ lvP c g.b).length = (lvP c g.a).length + (lvP c g.b).length := by simp
        exact ⟨s5, c5, ret_sl hl.symm, by rw [hl]; exact H5.out.1, H5.out.2⟩
    · clear hu1
      go_enter Try.func45, Try.ntmps45
      go_wp2_with (first
        | (go_at_call 44; ((refine (l1First_any _ _ _ _ _ _ _ (by omega) (by omega)).mono ?_); rintro e w1 ⟨rfl, hq⟩; rw [E1.out]; have HQ := Lib.hid (And.intro (HL.out.1.trans (hq.mono (by simp))) (And.intro (blk_below hq (blk_lt HL.out.2.1) HL.out.2.1) (show w.heap.size < w1.heap.size by have := hq.size; simp at this; omega))); have ca := (blk_all HQ.out.2.1).1; clear hq)))
      have hws := HQ.out.2.2
      have hw0 := HQ.out.1.size
      obtain ⟨z1, z2⟩ : w1.cell? ⟨gb, goff + i * 2, none⟩ = some (.int .i64 g.a) ∧ w1.cell? ⟨gb, goff + i * 2 + 1, none⟩ = some (.int .i64 g.b) := ⟨(HQ.out.1.cell (p := ⟨gb, goff + i * 2, none⟩) (by simp; omega)).trans HG.out.1, (HQ.out.1.cell (p := ⟨gb, goff + i * 2 + 1, none⟩) (by simp; omega)).trans HG.out.2⟩
      have hwr : IntKind.i64.wrap ((F : Int) + (i : Int) - (F : Int)) = (i : Int) := by rw [IntWalk.i64_in _ ⟨by omega, by omega⟩]; omega
      go_cut [8] from 32 to 39 (fun s8 wx => ∃ g' : Nat, s8 = .pointer (some ⟨g', 0, none⟩) ∧ w1.heap.size ≤ g' ∧ wx.heap[g']? = some (.cells #[.int .i64 g.a, .int .i64 g.b] 24 (0, 0)) ∧ Below w1.heap.size w1 wx)
      case first =>
        refine wp_region_T (fun w' => (∀ o, w'.cell? ⟨w.heap.size, o, none⟩ = #[Value.int .i64 c.inp, Value.slice sn c.next.length cn, Value.slice (some ⟨gb, goff, none⟩) c.gates.length cg, Value.slice so c.outs.length co][o]?) ∧ w'.cell? ⟨gb, goff + i * 2, none⟩ = some (.int .i64 g.a) ∧ w'.cell? ⟨gb, goff + i * 2 + 1, none⟩ = some (.int .i64 g.b)) (.q 0 (.q 1 (.q 2 (.q 3 (.two 4 (.q 5 (.q 6 (.q 7 (.e 8 (.e 9 .nil))))) 8 (.e 4 (.q 5 (.q 6 (.q 7 (.e 9 .nil)))))))))) (by kernel_rfl) (by kernel_rfl) (by kernel_rfl) ⟨ca, z1, z2⟩ ?_
        repeat (first | (refine ordt_s (o := ?_) ?_ ?_ ?_; rotate_left 1; (focus ((simp only [zD, zE, zF]) <;> rfl)); (focus rfl); simp only [Act.put, zA, zB, zC]) | (refine ordt_q (o := ?_) (v := ?_) ?_ ?_ ?_ ?_; rotate_left 2; (focus ((simp only [zD, zE, zF]) <;> rfl)); (focus rfl); (focus (intro w' hS; (try dsimp only at hS); go_split_ands; go_simp; (try (with_reducible rfl)))); simp only [Act.put, zA, zB, zC]))
        refine ordt_two ?_ ?_
        · (refine op_e (o := ?_) ?_ ?_ (fun K hK => ?_); rotate_left 1; (focus ((simp only [zD, zE, zF]) <;> rfl)); (focus rfl); go_simp)
          refine (l1First_any _ _ _ _ _ _ _ (by omega) (by omega)).mono ?_
          rintro e wa ⟨rfl, hq⟩
          rw [E1.out]
          have hb : Below w1.heap.size w1 wa := (Below.refl _ _).drew.trans hq
          refine hK.out _ _ ⟨(blk_all (blk_below hb (by omega) HQ.out.2.1)).1, (hb.cell (p := ⟨gb, goff + i * 2, none⟩) (by simp; omega)).trans z1, (hb.cell (p := ⟨gb, goff + i * 2 + 1, none⟩) (by simp; omega)).trans z2⟩ ?_
          clear hK K hq
          have HA := Lib.hid hb
          clear hb
          (try simp only [Act.put, zA, zB, zC])
          repeat (first | (refine ordt_s (o := ?_) ?_ ?_ ?_; rotate_left 1; (focus ((simp only [zD, zE, zF]) <;> rfl)); (focus rfl); simp only [Act.put, zA, zB, zC]) | (refine ordt_q (o := ?_) (v := ?_) ?_ ?_ ?_ ?_; rotate_left 2; (focus ((simp only [zD, zE, zF]) <;> rfl)); (focus rfl); (focus (intro w' hS; (try dsimp only at hS); go_split_ands; go_simp; (try (with_reducible rfl)))); simp only [Act.put, zA, zB, zC]))
          refine ordt_e ?_
          (refine op_e (o := ?_) ?_ ?_ (fun K hK => ?_); rotate_left 1; (focus ((simp only [zD, zE, zF]) <;> rfl)); (focus rfl); go_simp)
          have hb1 := HA.out.alloc HA.out.size (.cells #[.int .i64 0, .int .i64 0] 24)
          have hn := blk_new wa (.cells #[.int .i64 0, .int .i64 0] 24)
          have hga := HA.out.size
          revert hb1 hn
          generalize wa.alloc (.cells #[.int .i64 0, .int .i64 0] 24) = Wb
          intro hb1 hn
          refine hK.out _ _ ⟨(blk_all (blk_below hb1 (by omega) HQ.out.2.1)).1, (hb1.cell (p := ⟨gb, goff + i * 2, none⟩) (by simp; omega)).trans z1, (hb1.cell (p := ⟨gb, goff + i * 2 + 1, none⟩) (by simp; omega)).trans z2⟩ ?_
          clear hK K
          have k0 : Wb.cell? ⟨wa.heap.size, 0, none⟩ = some (.int .i64 0) := blk_cell hn
          have k1 : Wb.cell? ⟨wa.heap.size, 1, none⟩ = some (.int .i64 0) := blk_cell hn
          have k2 : Wb.frozen? ⟨wa.heap.size, 0, none⟩ = false := blk_free hn
          have k3 : Wb.frozen? ⟨wa.heap.size, 1, none⟩ = false := blk_free hn
          have HB := Lib.hid (And.intro hb1 hn)
          clear hb1 hn
          (try simp only [Act.put, zA, zB, zC])

          refine ordt_e ?_
          (refine op_e (o := ?_) ?_ ?_ (fun K hK => ?_); rotate_left 1; (focus ((simp only [zD, zE, zF]) <;> rfl)); (focus rfl); go_simp)
          have hn := blk_set (o := 1) (v := .int .i64 g.b) (blk_set (o := 0) (v := .int .i64 g.a) HB.out.2)
          have hb1 := (HB.out.1.setCell (p := ⟨wa.heap.size, 0, none⟩) hga (.int .i64 g.a)).setCell (p := ⟨wa.heap.size, 1, none⟩) hga (.int .i64 g.b)
          clear k0 k1 k2 k3
          revert hn hb1
          generalize (Wb.setCell ⟨wa.heap.size, 0, none⟩ (.int .i64 g.a)).setCell ⟨wa.heap.size, 1, none⟩ (.int .i64 g.b) = Wc
          intro hn hb1
          refine hK.out _ _ ⟨(blk_all (blk_below hb1 (by omega) HQ.out.2.1)).1, (hb1.cell (p := ⟨gb, goff + i * 2, none⟩) (by simp; omega)).trans z1, (hb1.cell (p := ⟨gb, goff + i * 2 + 1, none⟩) (by simp; omega)).trans z2⟩ ?_
          clear hK K
          have HC2 := Lib.hid (And.intro hn hb1)
          clear hn hb1
          (try simp only [Act.put, zA, zB, zC])
          refine ordt_nil ?_
          go_wp2_with fail
          go_meet
          exact ⟨wa.heap.size, rfl, hga, HC2.out.1, HC2.out.2⟩
        · (refine op_e (o := ?_) ?_ ?_ (fun K hK => ?_); rotate_left 1; (focus ((simp only [zD, zE, zF]) <;> rfl)); (focus rfl); go_simp)
          have hb1 : Below w1.heap.size w1 (w1.alloc (.cells #[.int .i64 0, .int .i64 0] 24)).drew := ((Below.refl _ _).alloc (Nat.le_refl _) _).drew
          have hn : (w1.alloc (.cells #[.int .i64 0, .int .i64 0] 24)).drew.heap[w1.heap.size]? = some (.cells #[.int .i64 0, .int .i64 0] 24 (0, 0)) := blk_new w1 _
          revert hb1 hn
          generalize (w1.alloc (.cells #[.int .i64 0, .int .i64 0] 24)).drew = Wb0
          intro hb1 hn
          refine hK.out _ _ ⟨(blk_all (blk_below hb1 (by omega) HQ.out.2.1)).1, (hb1.cell (p := ⟨gb, goff + i * 2, none⟩) (by simp; omega)).trans z1, (hb1.cell (p := ⟨gb, goff + i * 2 + 1, none⟩) (by simp; omega)).trans z2⟩ ?_
          clear hK K
          have HA := Lib.hid (And.intro hb1 hn)
          clear hb1 hn
          (try simp only [Act.put, zA, zB, zC])
          refine ordt_e ?_
          (refine op_e (o := ?_) ?_ ?_ (fun K hK => ?_); rotate_left 1; (focus ((simp only [zD, zE, zF]) <;> rfl)); (focus rfl); go_simp)
          refine (l1First_any _ _ _ _ _ _ _ (by omega) (by omega)).mono ?_
          rintro e Wb ⟨rfl, hq⟩
          rw [E1.out]
          have hb1 : Below w1.heap.size w1 Wb := HA.out.1.trans (hq.mono HA.out.1.size)
          have hn := blk_below hq (blk_lt HA.out.2) HA.out.2
          have hga := Nat.le_refl w1.heap.size
          refine hK.out _ _ ⟨(blk_all (blk_below hb1 (by omega) HQ.out.2.1)).1, (hb1.cell (p := ⟨gb, goff + i * 2, none⟩) (by simp; omega)).trans z1, (hb1.cell (p := ⟨gb, goff + i * 2 + 1, none⟩) (by simp; omega)).trans z2⟩ ?_
          clear hK K hq
          have k0 : Wb.cell? ⟨w1.heap.size, 0, none⟩ = some (.int .i64 0) := blk_cell hn
          have k1 : Wb.cell? ⟨w1.heap.size, 1, none⟩ = some (.int .i64 0) := blk_cell hn
          have k2 : Wb.frozen? ⟨w1.heap.size, 0, none⟩ = false := blk_free hn
          have k3 : Wb.frozen? ⟨w1.heap.size, 1, none⟩ = false := blk_free hn
          have HB := Lib.hid (And.intro hb1 hn)
          clear hb1 hn
          (try simp only [Act.put, zA, zB, zC])
          repeat (first | (refine ordt_s (o := ?_) ?_ ?_ ?_; rotate_left 1; (focus ((simp only [zD, zE, zF]) <;> rfl)); (focus rfl); simp only [Act.put, zA, zB, zC]) | (refine ordt_q (o := ?_) (v := ?_) ?_ ?_ ?_ ?_; rotate_left 2; (focus ((simp only [zD, zE, zF]) <;> rfl)); (focus rfl); (focus (intro w' hS; (try dsimp only at hS); go_split_ands; go_simp; (try (with_reducible rfl)))); simp only [Act.put, zA, zB, zC]))
          refine ordt_e ?_
          (refine op_e (o := ?_) ?_ ?_ (fun K hK => ?_); rotate_left 1; (focus ((simp only [zD, zE, zF]) <;> rfl)); (focus rfl); go_simp)
          have hn := blk_set (o := 1) (v := .int .i64 g.b) (blk_set (o := 0) (v := .int .i64 g.a) HB.out.2)
          have hb1 := (HB.out.1.setCell (p := ⟨w1.heap.size, 0, none⟩) hga (.int .i64 g.a)).setCell (p := ⟨w1.heap.size, 1, none⟩) hga (.int .i64 g.b)
          clear k0 k1 k2 k3
          revert hn hb1
          generalize (Wb.setCell ⟨w1.heap.size, 0, none⟩ (.int .i64 g.a)).setCell ⟨w1.heap.size, 1, none⟩ (.int .i64 g.b) = Wc
          intro hn hb1
          refine hK.out _ _ ⟨(blk_all (blk_below hb1 (by omega) HQ.out.2.1)).1, (hb1.cell (p := ⟨gb, goff + i * 2, none⟩) (by simp; omega)).trans z1, (hb1.cell (p := ⟨gb, goff + i * 2 + 1, none⟩) (by simp; omega)).trans z2⟩ ?_
          clear hK K
          have HC2 := Lib.hid (And.intro hn hb1)
          clear hn hb1
          (try simp only [Act.put, zA, zB, zC])
          refine ordt_nil ?_
          go_wp2_with fail
          go_meet
          exact ⟨w1.heap.size, rfl, hga, HC2.out.1, HC2.out.2⟩
      case rest =>
        obtain ⟨g', rfl, hg', hn, hb⟩ := hcut
        have hbw := HQ.out.1.trans (hb.mono HQ.out.1.size)
        have HR := Lib.hid (And.intro hbw (And.intro hn (blk_below hb (blk_lt HQ.out.2.1) HQ.out.2.1)))
        clear ca z1 z2 hb hbw hn hwr
        go_wp2_with fail
        refine wp_region_T (fun w' => (∀ o, w'.cell? ⟨w.heap.size, o, none⟩ = #[Value.int .i64 c.inp, Value.slice sn c.next.length cn, Value.slice (some ⟨gb, goff, none⟩) c.gates.length cg, Value.slice so c.outs.length co][o]?) ∧ w'.cell? ⟨g', 0, none⟩ = some (.int .i64 g.a) ∧ w'.cell? ⟨g', 1, none⟩ = some (.int .i64 g.b)) (.q 0 (.q 1 (.q 2 (.q 4 (.q 5 (.q 6 (.e 3 (.e 7 (.e 8 (.q 9 .nil)))))))))) (by kernel_rfl) (by kernel_rfl) (by kernel_rfl) ⟨(blk_all HR.out.2.2).1, blk_cell HR.out.2.1, blk_cell HR.out.2.1⟩ ?_
        repeat (first | (refine ordt_s (o := ?_) ?_ ?_ ?_; rotate_left 1; (focus ((simp only [zD, zE, zF]) <;> rfl)); (focus rfl); simp only [Act.put, zA, zB, zC]) | (refine ordt_q (o := ?_) (v := ?_) ?_ ?_ ?_ ?_; rotate_left 2; (focus ((simp only [zD, zE, zF]) <;> rfl)); (focus rfl); (focus (intro w' hS; (try dsimp only at hS); go_split_ands; go_simp; (try (with_reducible rfl)))); simp only [Act.put, zA, zB, zC]))
        refine ordt_e ?_
        (refine op_e (o := ?_) ?_ ?_ (fun K hK => ?_); rotate_left 1; (focus ((simp only [zD, zE, zF]) <;> rfl)); (focus rfl); go_simp)
        refine (HL.out.2.2.2.1 _ _ ((HC.out _ HR.out.1).mono (Below.refl _ _).drew)).mono ?_
        rintro e wA ⟨sA, cA, rfl, hoA, hbA⟩
        have hb2 : Below wc.heap.size wc wA := (Below.refl _ _).drew.trans hbA
        have hgl := blk_lt HR.out.2.1
        have hwl := blk_lt HR.out.2.2
        refine hK.out _ _ ⟨(blk_all (blk_below hb2 hwl HR.out.2.2)).1, blk_cell (blk_below hb2 hgl HR.out.2.1), blk_cell (blk_below hb2 hgl HR.out.2.1)⟩ ?_
        clear hK K
        have HA := Lib.hid (And.intro (HR.out.1.trans (hb2.mono HR.out.1.size)) (And.intro (blk_below hb2 hwl HR.out.2.2) (And.intro (blk_below hb2 hgl HR.out.2.1) hoA)))
        have hszA := hb2.size
        clear hbA hb2 hoA
        (try simp only [Act.put, zA, zB, zC])
        refine ordt_e ?_
        (refine op_e (o := ?_) ?_ ?_ (fun K hK => ?_); rotate_left 1; (focus ((simp only [zD, zE, zF]) <;> rfl)); (focus rfl); go_simp)
        refine (HL.out.2.2.2.2.1 _ _ (HC.out _ HA.out.1)).mono ?_
        rintro e wB ⟨sB, cB, rfl, hoB, hbB⟩
        refine hK.out _ _ ⟨(blk_all (blk_below hbB (blk_lt HA.out.2.1) HA.out.2.1)).1, blk_cell (blk_below hbB (blk_lt HA.out.2.2.1) HA.out.2.2.1), blk_cell (blk_below hbB (blk_lt HA.out.2.2.1) HA.out.2.2.1)⟩ ?_
        clear hK K
        have HB2 := Lib.hid (And.intro (HA.out.1.trans (hbB.mono HA.out.1.size)) (And.intro (blk_below hbB (blk_lt HA.out.2.1) HA.out.2.1) (And.intro (blk_below hbB (blk_lt HA.out.2.2.1) HA.out.2.2.1) (And.intro (own_below HA.out.2.2.2 hbB) (And.intro (own_sl hoB) (show wc.heap.size ≤ wB.heap.size by have h1 := HA.out.2.2.2.2; have h2 := hbB.size; have h3 := hszA; omega))))))
        clear hbB hoB
        (try simp only [Act.put, zA, zB, zC])
        refine ordt_e ?_
        (refine op_e (o := ?_) ?_ ?_ (fun K hK => ?_); rotate_left 1; (focus ((simp only [zD, zE, zF]) <;> rfl)); (focus rfl))
        have lA : (lvP c g.a).length ≤ 100000 := by have h1 := HL.out.2.2.2.2.2; omega
        have lB : (lvP c g.b).length ≤ 100000 := by have h1 := HL.out.2.2.2.2.2; omega
        refine wp_app (.tmp 43) (.tmp 47) rfl elem_int (own_base HB2.out.2.2.2.1 (Nat.le_refl wc.heap.size)) rfl rfl (by simp) HB2.out.2.2.2.2.1 (ints_one _) ((lvP c g.a).length + (lvP c g.b).length) rfl (ints (lvP c g.a ++ lvP c g.b)) (by rw [ints_append]) (by unfold maxLen; omega) (by omega) (by have := HB2.out.2.2.2.1; exact HB2.out.2.2.2.2.2) ?_
        intro s5 c5 W5 ho5 hb5 _ _
        have hbE := HB2.out.1.trans (hb5.mono HR.out.1.size)
        refine hK.out _ _ ⟨(blk_all (blk_below hb5 hwl HB2.out.2.1)).1, blk_cell (blk_below hb5 hgl HB2.out.2.2.1), blk_cell (blk_below hb5 hgl HB2.out.2.2.1)⟩ ?_
        clear hK K
        have H5 := Lib.hid (And.intro (own_base ho5 HR.out.1.size) hbE)
        clear ho5 hb5 hbE
        (try simp only [Act.put, zA, zB, zC])
        repeat (first | (refine ordt_s (o := ?_) ?_ ?_ ?_; rotate_left 1; (focus ((simp only [zD, zE, zF]) <;> rfl)); (focus rfl); simp only [Act.put, zA, zB, zC]) | (refine ordt_q (o := ?_) (v := ?_) ?_ ?_ ?_ ?_; rotate_left 2; (focus ((simp only [zD, zE, zF]) <;> rfl)); (focus rfl); (focus (intro w' hS; (try dsimp only at hS); go_split_ands; go_simp; (try (with_reducible rfl)))); simp only [Act.put, zA, zB, zC]))
        refine ordt_nil ?_
        go_wp2_with fail
        go_ret
        have hl : (lvP c g.a ++ lvP c g.b).length = (lvP c g.a).length + (lvP c g.b).length := by simp
        exact ⟨s5, c5, ret_sl hl.symm, by rw [hl]; exact H5.out.1, H5.out.2⟩

end Go.Proofs.Ytjecchljhdfjdaa
