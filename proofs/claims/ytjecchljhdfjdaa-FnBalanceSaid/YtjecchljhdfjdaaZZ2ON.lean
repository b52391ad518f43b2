import Derived.Test.YtjecchljhdfjdaaZZ2OL
import Derived.Test.YtjecchljhdfjdaaZZ2Q1
namespace Go.Proofs.Ytjecchljhdfjdaa
set_option linter.unusedVariables false
set_option linter.unusedSimpArgs false
open Go.RowKit

/-! Part of the proof of one law. -/

set_option maxHeartbeats 800000 in
theorem newBuilder_any (F : Nat) (inp ln : Int) (w : World) (hF : 1 + inp + ln = F) (hi : 0 ≤ inp ∧ inp ≤ 300) (hl : 0 ≤ ln ∧ ln ≤ 300) :
    Calls Try.prog 29 #[.int .i64 inp, .int .i64 ln] w fun e w' => ∃ bb mb vl, e = .returned (.pointer (some ⟨bb, 0, none⟩)) ∧ BX F w bb mb [] (lvlL F []) [] (.slice none 0 0) vl w' := by
  obtain ⟨i0, i1⟩ := hi
  obtain ⟨l0, l1⟩ := hl
  have hmk := fun w => mkInts w F (by omega)
  have hmm : ∀ w, (Instr.makeMap 87 none).run Try.prog w = .ok (.map (some w.heap.size)) (w.alloc (.map #[] 0)) := fun w => by kernel_rfl
  have HF := Lib.hid hF
  have h1 := blk_new w (.cells (ints (List.replicate F 0)).toArray 3)
  have hb1 := (Below.refl w.heap.size w).alloc (Nat.le_refl _) (.cells (ints (List.replicate F 0)).toArray 3)
  go_enter Try.func29, Try.ntmps29
  go_wp2_with fail
  go_ret
  have k1 : (((w.alloc (.cells (ints (List.replicate F 0)).toArray 3)).alloc (.map #[] 0)).alloc (.cells #[.int .i64 F, .slice none 0 0, .slice (some ⟨w.heap.size, 0, none⟩) F F, .map (some (w.heap.size + 1))] 89)).heap[w.heap.size]? = some (.cells (ints (List.replicate F 0)).toArray 3 (0, 0)) := blk_old (blk_old (blk_new w _))
  have k2 := blk_old (o := .cells #[.int .i64 F, .slice none 0 0, .slice (some ⟨w.heap.size, 0, none⟩) F F, .map (some (w.heap.size + 1))] 89) (blk_new (w.alloc (.cells (ints (List.replicate F 0)).toArray 3)) (.map #[] 0))
  have k3 := blk_new ((w.alloc (.cells (ints (List.replicate F 0)).toArray 3)).alloc (.map #[] 0)) (.cells #[.int .i64 F, .slice none 0 0, .slice (some ⟨w.heap.size, 0, none⟩) F F, .map (some (w.heap.size + 1))] 89)
  have k4 := own_of_blk (base := w.heap.size) (size := 1) (n := F) k1 (Nat.le_refl _) (by simp) (by unfold maxLen; omega)
  refine ⟨w.heap.size + 1 + 1, w.heap.size + 1, .slice (some ⟨w.heap.size, 0, none⟩) F F, rfl, ⟨by simpa using k3, World.ownsRow_nil _ _ _ _, ?_, ⟨#[], 0, by simpa using k2, rfl⟩, ((hb1.alloc (by simp) _).alloc (by simp; omega) _), by omega, by omega⟩⟩
  have e : lvlL F [] = List.replicate F 0 := rfl
  rw [e, List.length_replicate]
  simpa using k4

set_option maxHeartbeats 800000 in
theorem ownLits_any (F : Nat) (b : Nat) (inp : Int) (sn : Option Addr) (nn cn : Nat) (vg vo : Value) (w : World) (h : CirAt w b inp (.slice sn nn cn) vg vo) (hF : 1 + inp + (nn : Int) = F) (hi : 0 ≤ inp ∧ inp ≤ 300) (hn : nn ≤ 300) :
    Calls Try.prog 30 #[.pointer (some ⟨b, 0, none⟩)] w fun e w' => ∃ s cap, e = .returned (.slice s F cap) ∧ w'.ownsRow w.heap.size 3 1 (.slice s F cap) F (ints (evE F)) ∧ Below w.heap.size w w' := by
  have HF := Lib.hid hF
  have hF200 : F ≤ 601 := by omega
  clear hF
  go_enter Try.func30, Try.ntmps30
  go_upto_region 3 with (go_at_call 33; ((with_reducible refine (firstGate_any _ _ _ _ _ _ _ _ h (by omega) (by omega)).mono ?_); rintro e w1 ⟨rfl, hq⟩; rw [HF.out]; have H1 := Lib.hid (hq.below w.heap.size); clear hq))
  go_loopw [7, 3] (fun s7 s3 wr => ∃ (k : Nat) (s : Option Addr) (cp : Nat), k ≤ F ∧ s7 = .int .i64 k ∧ s3 = .slice s k cp ∧ wr.ownsRow w.heap.size 3 1 (.slice s k cp) k (ints (evE k)) ∧ Below w.heap.size w wr) (fun s7 _ _ => F - (intOf s7).toNat)
  case atStart => exact ⟨0, _, _, Nat.zero_le _, rfl, rfl, World.ownsRow_nil _ _ _ _, H1.out⟩
  case round =>
    obtain ⟨k, s, cp, hk, rfl, rfl, ho, hb⟩ := hrel
    have HR := Lib.hid (And.intro ho hb)
    clear ho hb
    by_cases hlt : k < F
    · go_wp2_with (at_builtin; refine wpl_app rfl _ _ rfl elem_int (own_below HR.out.1 ((Below.refl _ _).alloc (Nat.le_refl _) _)) rfl rfl rfl (Sl.new _ _ _) (by simp [Value.oneCell']) (k + 1) rfl (ints (evE (k + 1))) (by rw [evE_succ, ← ints_append]; rfl) (by unfold maxLen; omega) (by omega) (HR.out.2.alloc HR.out.2.size _).size ?_; intro s6 c6 w6 h6 hb6 _ _; have H6 := Lib.hid (And.intro h6 ((HR.out.2.alloc HR.out.2.size _).trans hb6)); clear h6 hb6)
      go_roundw
      case rel => exact ⟨k + 1, s6, c6, by omega, by go_num, rfl, H6.out.1, H6.out.2⟩
      case measure => simp [intOf]; try omega
    · obtain rfl : F = k := by omega
      go_wp2_with fail
      go_ret
      exact ⟨_, _, rfl, HR.out.1, HR.out.2⟩

/-! The closures of builder.circuit and of pruned, and replaced with them. -/

/-- A circuit whose literals lie below 2 V. -/
structure CV (c : Cir) (V : Nat) : Prop where
  lim : c.wlim
  gates : ∀ g ∈ c.gates, (0 ≤ g.a ∧ g.a / 2 < (V : Int)) ∧ 0 ≤ g.b ∧ g.b / 2 < (V : Int)
  next : litsP V c.next
  outs : litsP V c.outs

theorem CV.of_valid {c : Cir} {V : Nat} (h : c.wide) (hV : c.vars = V) : CV c V := by
  refine ⟨h.lim, fun g hg => ?_, by rw [← hV]; exact h.next, by rw [← hV]; exact h.outs⟩
  obtain ⟨i, hi⟩ := List.mem_iff_getElem?.1 hg
  have hlt := (List.getElem?_eq_some_iff.1 hi).1
  obtain ⟨⟨a, b⟩, d, e⟩ := gatesP_at h.gates hi
  have e1 : c.vars = c.first + c.gates.length := rfl
  omega

theorem circ1_any (b1 n cm : Nat) (sm : Option Addr) (m : List Int) (l : Int) (w : World) (hb : w.cell? ⟨b1, 0, none⟩ = some (.slice sm n cm)) (hn : m.length = n) (h : Sl w sm (ints m)) (h0 : 0 ≤ l) (h1 : l / 2 < n) (hl : l ≤ 1000) (hm : ∀ x ∈ m, 0 ≤ x ∧ x ≤ 300) :
    Calls Try.prog (76) #[.int .i64 l, .pointer (some ⟨b1, 0, none⟩)] w fun e w' => e = .returned (.int .i64 (mapB m l)) ∧ w = w' := by
  obtain ⟨q, hq⟩ : ∃ q : Nat, l / 2 = q := ⟨(l / 2).toNat, by omega⟩
  have q2 : q < n := by omega
  obtain ⟨x, hxq⟩ := get_of_lt (l := m) (k := q) (by omega)
  obtain ⟨b, off, rfl, hbw, hz⟩ := h.int (Below.refl _ _) hxq
  have hx : bits .xor .i64 x (l % 2) = mapB m l := by
    rw [mapB_eq hq hxq]
    have := hm x (List.mem_of_getElem? hxq)
    exact bits_xrb x (l % 2) this.1 this.2 (by omega)
  have hand := i64_and1 l
  have H := Lib.hid (And.intro h (And.intro hxq hm))
  have HX := Lib.hid hx
  clear h hx h1 hm hxq hn
  go_enter Try.func76, Try.ntmps76
  go_wp2
  go_ret
  exact ⟨ret_int HX.out, rfl⟩

/-- A literal under places of variables. -/
def plB (m : List Int) (l : Int) : Int := 2 * m.getD (l / 2).toNat 0 + l % 2

theorem prun1_any (b1 n cm : Nat) (sm : Option Addr) (m : List Int) (l : Int) (w : World) (hb : w.cell? ⟨b1, 0, none⟩ = some (.slice sm n cm)) (hn : m.length = n) (h : Sl w sm (ints m)) (h0 : 0 ≤ l) (h1 : l / 2 < n) (hl : l ≤ 1000) (hm : ∀ x ∈ m, 0 ≤ x ∧ x ≤ 300) :
    Calls Try.prog (94) #[.int .i64 l, .pointer (some ⟨b1, 0, none⟩)] w fun e w' => e = .returned (.int .i64 (plB m l)) ∧ w = w' := by
  obtain ⟨q, hq⟩ : ∃ q : Nat, l / 2 = q := ⟨(l / 2).toNat, by omega⟩
  have q2 : q < n := by omega
  obtain ⟨x, hxq⟩ := get_of_lt (l := m) (k := q) (by omega)
  obtain ⟨b, off, rfl, hbw, hz⟩ := h.int (Below.refl _ _) hxq
  have hx : 2 * x + l % 2 = plB m l := by
    unfold plB; rw [hq, Int.toNat_natCast, List.getD_eq_getElem?_getD, hxq]; rfl
  obtain ⟨x0, x1⟩ := hm x (List.mem_of_getElem? hxq)
  have hand := i64_and1 l
  have H := Lib.hid (And.intro h (And.intro hxq hm))
  have HX := Lib.hid hx
  clear h hx h1 hm hxq hn
  go_enter Try.func94, Try.ntmps94
  go_wp2
  go_ret
  exact ⟨ret_int HX.out, rfl⟩

set_option maxRecDepth 100000 in
set_option maxHeartbeats 3200000 in
theorem replacedC_any (b b1 V : Nat) (c : Cir) (f : Int → Int) (sn sg so : Option Addr) (cn cg co : Nat) (w : World) (h : CirAt w b c.inp (.slice sn c.next.length cn) (.slice sg c.gates.length cg) (.slice so c.outs.length co))
    (hn : Sl w sn (ints c.next)) (hg : Sl w sg (gcells c.gates)) (ho : Sl w so (ints c.outs)) (hv : CV c V)
    (hu : ∀ W (l : Int), Below w.heap.size w W → 0 ≤ l → l / 2 < (V : Int) → Calls Try.prog (76) #[.int .i64 l, .pointer (some ⟨b1, 0, none⟩)] W fun e w' => e = .returned (.int .i64 (f l)) ∧ W = w') :
    Calls Try.prog 64 #[.pointer (some ⟨b, 0, none⟩), .func (.func (76)) #[] #[.pointer (some ⟨b1, 0, none⟩)]] w fun e w' => ∃ vn vg vo, e = .returned (.agg #[.int .i64 c.inp, vn, vg, vo]) ∧ CirOwn w' w.heap.size (c.mapC f) vn vg vo ∧ Below w.heap.size w w' := by
  have HB : Hid (b < w.heap.size) := World.block_lt_of_cell? w _ h.h0
  obtain ⟨q1, q2, q3, q4, q5⟩ := id hv.lim
  have H := Lib.hid (And.intro h (And.intro hn (And.intro hg (And.intro ho (And.intro hv hu)))))
  have CC : Hid (∀ W, Below w.heap.size w W → CirAt W b c.inp (.slice sn c.next.length cn) (.slice sg c.gates.length cg) (.slice so c.outs.length co)) := fun W hb => ⟨(hb.cell (p := ⟨b, 0, none⟩) HB.out).trans H.out.1.h0, (hb.cell (p := ⟨b, 1, none⟩) HB.out).trans H.out.1.h1, (hb.cell (p := ⟨b, 2, none⟩) HB.out).trans H.out.1.h2, (hb.cell (p := ⟨b, 3, none⟩) HB.out).trans H.out.1.h3⟩
  obtain ⟨z0, z1, z2, z3⟩ := h
  clear hn hg ho hv hu
  have hb0 : Below w.heap.size w ((w.alloc (.cells #[.int .i64 0, .slice none 0 0, .slice none 0 0, .slice none 0 0] 28)).alloc (.cells #[.int .i64 c.inp, .slice none 0 0, .slice none 0 0, .slice none 0 0] 28)) := by go_grown
  have hk0 : OutC ((w.alloc (.cells #[.int .i64 0, .slice none 0 0, .slice none 0 0, .slice none 0 0] 28)).alloc (.cells #[.int .i64 c.inp, .slice none 0 0, .slice none 0 0, .slice none 0 0] 28)) (w.heap.size + 1) (w.heap.size + 1) c.inp [] [] [] (.slice none 0 0) (.slice none 0 0) (.slice none 0 0) :=
    ⟨blk_at (by simp), World.ownsRow_nil _ _ _ _, World.ownsRow_nil _ _ _ _, World.ownsRow_nil _ _ _ _, fun k hk => by cases hk⟩
  have hr0 := blk_old (o := .cells #[.int .i64 c.inp, .slice none 0 0, .slice none 0 0, .slice none 0 0] 28) (blk_new w (.cells #[.int .i64 0, .slice none 0 0, .slice none 0 0, .slice none 0 0] 28))
  have H0 := Lib.hid (And.intro hb0 (And.intro hk0 (And.intro hr0 (show w.heap.size + 2 ≤ ((w.alloc (.cells #[.int .i64 0, .slice none 0 0, .slice none 0 0, .slice none 0 0] 28)).alloc (.cells #[.int .i64 c.inp, .slice none 0 0, .slice none 0 0, .slice none 0 0] 28)).heap.size by simp))))
  clear hb0 hk0 hr0
  have hbB := HB.out
  go_enter Try.func64, Try.ntmps64
  go_wp2_with fail
  revert H0
  generalize ((w.alloc (.cells #[.int .i64 0, .slice none 0 0, .slice none 0 0, .slice none 0 0] 28)).alloc (.cells #[.int .i64 c.inp, .slice none 0 0, .slice none 0 0, .slice none 0 0] 28)) = W0
  intro H0
  go_loopw [22] (fun i wr => ∃ (k : Nat) (s : Option Addr) (cc : Nat), k ≤ c.next.length ∧ i = .int .i64 k ∧ OutC wr (w.heap.size + 1) (w.heap.size + 1) c.inp ((c.next.take k).map f) [] [] (.slice s k cc) (.slice none 0 0) (.slice none 0 0) ∧ Below (w.heap.size + 1) W0 wr) (fun i _ => c.next.length - (intOf i).toNat)
  case atStart => exact ⟨0, _, _, Nat.zero_le _, rfl, H0.out.2.1, Below.refl _ _⟩
  case round =>
    obtain ⟨k, s, cc, hk, rfl, hO, hbl⟩ := hrel
    have hbw : Below w.heap.size w wr := H0.out.1.trans (hbl.mono (Nat.le_succ _))
    have hsz : w.heap.size + 2 ≤ wr.heap.size := Nat.le_trans H0.out.2.2.2 hbl.size
    have hlk : ((c.next.take k).map f).length = k := by simp; omega
    have hlk1 : k < c.next.length → ((c.next.take (k + 1)).map f).length = k + 1 := fun h => by simp; omega
    by_cases hlt : k < c.next.length
    · obtain ⟨x, hx⟩ := get_of_lt hlt
      obtain ⟨xb, xf, rfl, hxb, zx⟩ := H.out.2.1.int hbw hx
      obtain ⟨x0, x1⟩ : 0 ≤ x ∧ x < 2 * (V : Int) := H.out.2.2.2.2.1.next x (List.mem_of_getElem? hx)
      have hcB := (blk_all hO.blk).1
      have HR := Lib.hid (And.intro hO (And.intro hbl (And.intro hbw (And.intro hx (And.intro hlk (And.intro (hlk1 hlt) (show x / 2 < (V : Int) by omega)))))))
      clear hO hbl hbw hx hlk hlk1 hxb x1
      go_upto_region 5 with fail
      refine wp_region_E (fun w' => ∀ o, w'.cell? ⟨w.heap.size + 1, o, none⟩ = #[Value.int .i64 c.inp, .slice s k cc, .slice none 0 0, .slice none 0 0][o]?) 8 (.q 0 (.q 1 (.q 2 (.q 3 (.e 4 (.e 5 (.e 6 (.q 7 (.z 8))))))))) (by kernel_rfl) (by kernel_rfl) (by kernel_rfl) (by kernel_rfl) (by kernel_rfl) (by kernel_rfl) hcB ?_
      repeat (first | (refine orde_s (o := ?_) ?_ ?_ ?_; rotate_left 1; (focus ((simp only [zD, zE, zF]) <;> rfl)); (focus rfl); simp only [Act.put, zA, zB, zC]) | (refine orde_q (o := ?_) (v := ?_) ?_ ?_ ?_ ?_; rotate_left 2; (focus ((simp only [zD, zE, zF]) <;> rfl)); (focus rfl); (focus (intro w' hS; (try dsimp only at hS); go_split_ands; go_simp; (try (with_reducible rfl)))); simp only [Act.put, zA, zB, zC]))
      refine orde_e ?_
      (refine ope_e (o := ?_) ?_ ?_ (fun K hK => ?_); rotate_left 1; (focus ((simp only [zD, zE, zF]) <;> rfl)); (focus rfl); go_simp)
      refine (H.out.2.2.2.2.2 _ x HR.out.2.2.1.drew x0 HR.out.2.2.2.2.2.2).mono ?_
      rintro e wa ⟨rfl, rfl⟩
      refine hK.out _ _ hcB ?_
      clear hK K
      (try simp only [Act.put, zA, zB, zC])
      refine orde_e ?_
      (refine ope_e (o := ?_) ?_ ?_ (fun K hK => ?_); rotate_left 1; (focus ((simp only [zD, zE, zF]) <;> rfl)); (focus rfl); go_simp)
      have hb1 : Below wr.heap.size wr (wr.alloc (.cells #[.int .i64 (f x)] 3)).drew := ((Below.refl _ _).alloc (Nat.le_refl _) _).drew
      have hs1 : Sl (wr.alloc (.cells #[.int .i64 (f x)] 3)).drew (some ⟨wr.heap.size, 0, none⟩) [.int .i64 (f x)] := (Sl.new wr _ _).drew
      revert hb1 hs1
      generalize (wr.alloc (.cells #[.int .i64 (f x)] 3)).drew = W1
      intro hb1 hs1
      have hO1 := HR.out.1.below hb1
      refine hK.out _ _ (blk_all hO1.blk).1 ?_
      clear hK K
      have HW1 := Lib.hid (And.intro hO1 (And.intro hs1 (And.intro (HR.out.2.1.trans (hb1.mono (by omega))) (show w.heap.size + 2 ≤ W1.heap.size from Nat.le_trans hsz hb1.size))))
      have hs1z := HW1.out.2.2.2
      clear hO1 hb1 hs1 hcB
      (try simp only [Act.put, zA, zB, zC])
      refine orde_e ?_
      (refine ope_e (o := ?_) ?_ ?_ (fun K hK => ?_); rotate_left 1; (focus ((simp only [zD, zE, zF]) <;> rfl)); (focus rfl))
      refine wp_app (.tmp 27) (.tmp 31) rfl elem_int (by have h1 := HW1.out.1.n; rw [HR.out.2.2.2.2.1] at h1; exact h1) rfl rfl (by simp) HW1.out.2.1 (by simp [Value.oneCell']) (k + 1) rfl (ints ((c.next.take (k + 1)).map f)) (by rw [map_snoc HR.out.2.2.2.1, ← ints_append]; rfl) (by unfold maxLen; omega) (by omega) (by omega) ?_
      intro s6 c6 W2 ho6 hb6 hg6 hob6
      obtain ⟨hB2, hO2⟩ := HW1.out.1.pushN hg6 (xn' := ((c.next.take (k + 1)).map f)) (by rw [HR.out.2.2.2.2.2.1]; exact ho6) hob6
      refine hK.out _ _ (blk_all hB2).1 ?_
      clear hK K
      have y1 : W2.cell? ⟨w.heap.size + 1, 1, none⟩ = some (.slice s k cc) := blk_cell hB2
      have y2 : W2.frozen? ⟨w.heap.size + 1, 1, none⟩ = false := blk_free hB2
      have HW2 := Lib.hid (And.intro hO2 (HW1.out.2.2.1.trans hb6))
      clear hB2 hO2 ho6 hb6 hg6 hob6
      (try simp only [Act.put, zA, zB, zC])
      repeat (first | (refine orde_s (o := ?_) ?_ ?_ ?_; rotate_left 1; (focus ((simp only [zD, zE, zF]) <;> rfl)); (focus rfl); simp only [Act.put, zA, zB, zC]) | (refine orde_q (o := ?_) (v := ?_) ?_ ?_ ?_ ?_; rotate_left 2; (focus ((simp only [zD, zE, zF]) <;> rfl)); (focus rfl); (focus (intro w' hS; (try dsimp only at hS); go_split_ands; go_simp; (try (with_reducible rfl)))); simp only [Act.put, zA, zB, zC]))
      (refine orde_z (o := ?_) ?_ ?_ (fun K hK => ?_); rotate_left 1; (focus ((simp only [zD, zE, zF]) <;> rfl)); (focus rfl); go_simp)
      refine hK.out _ _ ?_
      clear hK K y1 y2
      go_wp2_with fail
      go_roundw
      case rel => exact ⟨k + 1, s6, c6, by omega, by go_num, HW2.out.1, HW2.out.2.setCell (p := ⟨w.heap.size + 1, 1, none⟩) (Nat.le_refl _) _⟩
      case measure => simp [intOf]; omega
    · obtain rfl : k = c.next.length := by omega
      rw [List.take_length] at hO
      have HX1 := Lib.hid (And.intro hO (And.intro hbl hbw))
      have ccx := (CC.out _ hbw)
      obtain ⟨z0, z1, z2, z3⟩ := ccx
      clear hO hbl hbw hlk hlk1
      obtain ⟨vN, hvN⟩ : ∃ vN, vN = Value.slice s c.next.length cc := ⟨_, rfl⟩
      have hO := HX1.out.1
      have hbl := HX1.out.2.1
      rw [← hvN] at hO
      have HY1 := Lib.hid (And.intro hO hbl)
      have HvN : Hid (∃ s' c', vN = Value.slice s' c.next.length c') := ⟨_, _, hvN⟩
      clear hO hbl hvN HX1
      go_wp2_with fail
      clear z0 z1 z2 z3
      go_loopw [40] (fun i wr => ∃ (k : Nat) (s : Option Addr) (cc : Nat), k ≤ c.gates.length ∧ i = .int .i64 k ∧ OutC wr (w.heap.size + 1) (w.heap.size + 1) c.inp (c.next.map f) (mapG f (c.gates.take k)) [] vN (.slice s k cc) (.slice none 0 0) ∧ Below (w.heap.size + 1) W0 wr) (fun i _ => c.gates.length - (intOf i).toNat)
      case atStart => exact ⟨0, _, _, Nat.zero_le _, rfl, HY1.out.1, HY1.out.2⟩
      case round =>
        obtain ⟨k, s, cc, hk, rfl, hO, hbl⟩ := hrel
        have hbw : Below w.heap.size w wr := H0.out.1.trans (hbl.mono (Nat.le_succ _))
        have hsz : w.heap.size + 2 ≤ wr.heap.size := Nat.le_trans H0.out.2.2.2 hbl.size
        have hlk : (mapG f (c.gates.take k)).length = k := by simp [mapG]; omega
        have hlk1 : k < c.gates.length → (mapG f (c.gates.take (k + 1))).length = k + 1 := fun h => by simp [mapG]; omega
        by_cases hlt : k < c.gates.length
        · obtain ⟨g, hg⟩ := get_of_lt hlt
          obtain ⟨gb, gf, rfl, hgb, zx, zy⟩ := H.out.2.2.1.gate hbw hg
          obtain ⟨⟨a0, a1⟩, b0, b1⟩ := H.out.2.2.2.2.1.gates g (List.mem_of_getElem? hg)
          have hblkL := blk_lt hO.blk
          have HR := Lib.hid (And.intro hO (And.intro hbl (And.intro hbw (And.intro hg (And.intro hlk (And.intro (hlk1 hlt) (show g.a / 2 < (V : Int) ∧ g.b / 2 < (V : Int) by omega)))))))
          clear hO hbl hbw hg hlk hlk1 hgb a1 b1
          go_upto_region 10 with fail
          have hb0 : Below wr.heap.size wr (wr.alloc (.cells #[.int .i64 g.a, .int .i64 g.b] 24)) := (Below.refl _ _).alloc (Nat.le_refl _) _
          have hn0 := blk_new wr (.cells #[.int .i64 g.a, .int .i64 g.b] 24)
          have hz0 : (wr.alloc (.cells #[.int .i64 g.a, .int .i64 g.b] 24)).heap.size = wr.heap.size + 1 := by simp
          clear zx zy
          revert hb0 hn0 hz0
          generalize wr.alloc (.cells #[.int .i64 g.a, .int .i64 g.b] 24) = WG
          intro hb0 hn0 hz0
          have hOg := HR.out.1.below hb0
          have HG := Lib.hid (And.intro hOg (And.intro hn0 (And.intro (HR.out.2.1.trans (hb0.mono (by omega))) (HR.out.2.2.1.trans (hb0.mono (by omega))))))
          have hcB := (blk_all hOg.blk).1
          have hc0 : WG.cell? ⟨wr.heap.size, 0, none⟩ = some (.int .i64 g.a) := blk_cell hn0
          have hc1 : WG.cell? ⟨wr.heap.size, 1, none⟩ = some (.int .i64 g.b) := blk_cell hn0
          clear hb0 hn0 hOg
          refine wp_region_E (fun w' => (∀ o, w'.cell? ⟨w.heap.size + 1, o, none⟩ = #[Value.int .i64 c.inp, vN, .slice s k cc, .slice none 0 0][o]?) ∧ w'.cell? ⟨wr.heap.size, 0, none⟩ = some (.int .i64 g.a) ∧ w'.cell? ⟨wr.heap.size, 1, none⟩ = some (.int .i64 g.b)) 14 (.q 0 (.q 1 (.q 2 (.q 3 (.q 4 (.q 6 (.q 7 (.q 8 (.e 5 (.e 9 (.q 10 (.e 11 (.e 12 (.q 13 (.z 14))))))))))))))) (by kernel_rfl) (by kernel_rfl) (by kernel_rfl) (by kernel_rfl) (by kernel_rfl) (by kernel_rfl) ⟨hcB, hc0, hc1⟩ ?_
          repeat (first | (refine orde_s (o := ?_) ?_ ?_ ?_; rotate_left 1; (focus ((simp only [zD, zE, zF]) <;> rfl)); (focus rfl); simp only [Act.put, zA, zB, zC]) | (refine orde_q (o := ?_) (v := ?_) ?_ ?_ ?_ ?_; rotate_left 2; (focus ((simp only [zD, zE, zF]) <;> rfl)); (focus rfl); (focus (intro w' hS; (try dsimp only at hS); go_split_ands; go_simp; (try (with_reducible rfl)))); simp only [Act.put, zA, zB, zC]))
          refine orde_e ?_
          (refine ope_e (o := ?_) ?_ ?_ (fun K hK => ?_); rotate_left 1; (focus ((simp only [zD, zE, zF]) <;> rfl)); (focus rfl); go_simp)
          refine (H.out.2.2.2.2.2 _ g.a HG.out.2.2.2.drew a0 HR.out.2.2.2.2.2.2.1).mono ?_
          rintro e wa ⟨rfl, rfl⟩
          refine hK.out _ _ ⟨hcB, hc0, hc1⟩ ?_
          clear hK K
          (try simp only [Act.put, zA, zB, zC])
          refine orde_e ?_
          (refine ope_e (o := ?_) ?_ ?_ (fun K hK => ?_); rotate_left 1; (focus ((simp only [zD, zE, zF]) <;> rfl)); (focus rfl); go_simp)
          refine (H.out.2.2.2.2.2 _ g.b HG.out.2.2.2.drew b0 HR.out.2.2.2.2.2.2.2).mono ?_
          rintro e wa ⟨rfl, rfl⟩
          refine hK.out _ _ ⟨hcB, hc0, hc1⟩ ?_
          clear hK K
          (try simp only [Act.put, zA, zB, zC])
          repeat (first | (refine orde_s (o := ?_) ?_ ?_ ?_; rotate_left 1; (focus ((simp only [zD, zE, zF]) <;> rfl)); (focus rfl); simp only [Act.put, zA, zB, zC]) | (refine orde_q (o := ?_) (v := ?_) ?_ ?_ ?_ ?_; rotate_left 2; (focus ((simp only [zD, zE, zF]) <;> rfl)); (focus rfl); (focus (intro w' hS; (try dsimp only at hS); go_split_ands; go_simp; (try (with_reducible rfl)))); simp only [Act.put, zA, zB, zC]))
          refine orde_e ?_
          (refine ope_e (o := ?_) ?_ ?_ (fun K hK => ?_); rotate_left 1; (focus ((simp only [zD, zE, zF]) <;> rfl)); (focus rfl); go_simp)
          have hb1 : Below WG.heap.size WG (WG.alloc (.cells #[.int .i64 (f g.a), .int .i64 (f g.b)] 24)).drew := ((Below.refl _ _).alloc (Nat.le_refl _) _).drew
          have hs1 : Sl (WG.alloc (.cells #[.int .i64 (f g.a), .int .i64 (f g.b)] 24)).drew (some ⟨wr.heap.size + 1, 0, none⟩) [.int .i64 (f g.a), .int .i64 (f g.b)] := by rw [← hz0]; exact (Sl.new WG _ _).drew
          revert hb1 hs1
          generalize (WG.alloc (.cells #[.int .i64 (f g.a), .int .i64 (f g.b)] 24)).drew = W1
          intro hb1 hs1
          have hO1 := HG.out.1.below hb1
          have hg1 := blk_below hb1 (by omega) HG.out.2.1
          refine hK.out _ _ ⟨(blk_all hO1.blk).1, blk_cell hg1, blk_cell hg1⟩ ?_
          clear hK K
          have HW1 := Lib.hid (And.intro hO1 (And.intro hs1 (And.intro (HG.out.2.2.1.trans (hb1.mono (by omega))) (And.intro (show w.heap.size + 2 ≤ W1.heap.size by have := hb1.size; omega) hg1))))
          have hs1z := HW1.out.2.2.2.1
          clear hO1 hb1 hs1 hcB hc0 hc1 hg1
          (try simp only [Act.put, zA, zB, zC])
          refine orde_e ?_
          (refine ope_e (o := ?_) ?_ ?_ (fun K hK => ?_); rotate_left 1; (focus ((simp only [zD, zE, zF]) <;> rfl)); (focus rfl))
          refine wp_app (.tmp 45) (.tmp 55) rfl elem_gate (by have h1 := HW1.out.1.g; rw [HR.out.2.2.2.2.1] at h1; exact h1) rfl rfl (by simp) HW1.out.2.1 (by simp [Value.oneCell']) (k + 1) rfl (gcells (mapG f (c.gates.take (k + 1)))) (by rw [mapG_snoc HR.out.2.2.2.1, ← gcells_append]; rfl) (by unfold maxLen; omega) (by omega) (by omega) ?_
          intro s6 c6 W2 ho6 hb6 hg6 hob6
          obtain ⟨hB2, hO2⟩ := HW1.out.1.pushG hg6 (xg' := mapG f (c.gates.take (k + 1))) (by rw [HR.out.2.2.2.2.2.1]; exact ho6)
          have hgx : W2.heap[wr.heap.size]? = some (.cells #[.int .i64 g.a, .int .i64 g.b] 24 (0, 0)) := by
            rw [hg6.block wr.heap.size (blk_lt HW1.out.2.2.2.2) (fun e => by have h1 := HR.out.1.g; have h2 := (own_blk h1 e.symm).2; omega)]; exact HW1.out.2.2.2.2
          refine hK.out _ _ ⟨(blk_all hB2).1, blk_cell hgx, blk_cell hgx⟩ ?_
          clear hK K
          have y1 : W2.cell? ⟨w.heap.size + 1, 2, none⟩ = some (.slice s k cc) := blk_cell hB2
          have y2 : W2.frozen? ⟨w.heap.size + 1, 2, none⟩ = false := blk_free hB2
          have HW2 := Lib.hid (And.intro hO2 (HW1.out.2.2.1.trans hb6))
          clear hB2 hO2 ho6 hb6 hg6 hob6 hgx
          (try simp only [Act.put, zA, zB, zC])
          repeat (first | (refine orde_s (o := ?_) ?_ ?_ ?_; rotate_left 1; (focus ((simp only [zD, zE, zF]) <;> rfl)); (focus rfl); simp only [Act.put, zA, zB, zC]) | (refine orde_q (o := ?_) (v := ?_) ?_ ?_ ?_ ?_; rotate_left 2; (focus ((simp only [zD, zE, zF]) <;> rfl)); (focus rfl); (focus (intro w' hS; (try dsimp only at hS); go_split_ands; go_simp; (try (with_reducible rfl)))); simp only [Act.put, zA, zB, zC]))
          (refine orde_z (o := ?_) ?_ ?_ (fun K hK => ?_); rotate_left 1; (focus ((simp only [zD, zE, zF]) <;> rfl)); (focus rfl); go_simp)
          refine hK.out _ _ ?_
          clear hK K y1 y2
          go_wp2_with fail
          go_roundw
          case rel => exact ⟨k + 1, s6, c6, by omega, by go_num, HW2.out.1, HW2.out.2.setCell (p := ⟨w.heap.size + 1, 2, none⟩) (Nat.le_refl _) _⟩
          case measure => simp [intOf]; omega
        · obtain rfl : k = c.gates.length := by omega
          rw [List.take_length] at hO
          obtain ⟨vG, hvG⟩ : ∃ vG, vG = Value.slice s c.gates.length cc := ⟨_, rfl⟩
          rw [← hvG] at hO
          have HY2 := Lib.hid (And.intro hO hbl)
          have ccx := (CC.out _ hbw)
          obtain ⟨z0, z1, z2, z3⟩ := ccx
          have HvG : Hid (∃ s' c', vG = Value.slice s' c.gates.length c') := ⟨_, _, hvG⟩
          clear hO hbl hbw hlk hlk1 hvG
          go_wp2_with fail
          clear z0 z1 z2 z3
          go_loopw [64] (fun i wr => ∃ (k : Nat) (s : Option Addr) (cc : Nat), k ≤ c.outs.length ∧ i = .int .i64 k ∧ OutC wr (w.heap.size + 1) (w.heap.size + 1) c.inp (c.next.map f) (mapG f c.gates) ((c.outs.take k).map f) (vN) (vG) (.slice s k cc) ∧ Below (w.heap.size + 1) W0 wr) (fun i _ => c.outs.length - (intOf i).toNat)
          case atStart => exact ⟨0, _, _, Nat.zero_le _, rfl, HY2.out.1, HY2.out.2⟩
          case round =>
            obtain ⟨k, s, cc, hk, rfl, hO, hbl⟩ := hrel
            have hbw : Below w.heap.size w wr := H0.out.1.trans (hbl.mono (Nat.le_succ _))
            have hsz : w.heap.size + 2 ≤ wr.heap.size := Nat.le_trans H0.out.2.2.2 hbl.size
            have hlk : ((c.outs.take k).map f).length = k := by simp; omega
            have hlk1 : k < c.outs.length → ((c.outs.take (k + 1)).map f).length = k + 1 := fun h => by simp; omega
            by_cases hlt : k < c.outs.length
            · obtain ⟨x, hx⟩ := get_of_lt hlt
              obtain ⟨xb, xf, rfl, hxb, zx⟩ := H.out.2.2.2.1.int hbw hx
              obtain ⟨x0, x1⟩ : 0 ≤ x ∧ x < 2 * (V : Int) := H.out.2.2.2.2.1.outs x (List.mem_of_getElem? hx)
              have hcB := (blk_all hO.blk).1
              have HR := Lib.hid (And.intro hO (And.intro hbl (And.intro hbw (And.intro hx (And.intro hlk (And.intro (hlk1 hlt) (show x / 2 < (V : Int) by omega)))))))
              clear hO hbl hbw hx hlk hlk1 hxb x1
              go_upto_region 15 with fail
              refine wp_region_E (fun w' => ∀ o, w'.cell? ⟨w.heap.size + 1, o, none⟩ = #[Value.int .i64 c.inp, vN, vG, .slice s k cc][o]?) 8 (.q 0 (.q 1 (.q 2 (.q 3 (.e 4 (.e 5 (.e 6 (.q 7 (.z 8))))))))) (by kernel_rfl) (by kernel_rfl) (by kernel_rfl) (by kernel_rfl) (by kernel_rfl) (by kernel_rfl) hcB ?_
              repeat (first | (refine orde_s (o := ?_) ?_ ?_ ?_; rotate_left 1; (focus ((simp only [zD, zE, zF]) <;> rfl)); (focus rfl); simp only [Act.put, zA, zB, zC]) | (refine orde_q (o := ?_) (v := ?_) ?_ ?_ ?_ ?_; rotate_left 2; (focus ((simp only [zD, zE, zF]) <;> rfl)); (focus rfl); (focus (intro w' hS; (try dsimp only at hS); go_split_ands; go_simp; (try (with_reducible rfl)))); simp only [Act.put, zA, zB, zC]))
              refine orde_e ?_
              (refine ope_e (o := ?_) ?_ ?_ (fun K hK => ?_); rotate_left 1; (focus ((simp only [zD, zE, zF]) <;> rfl)); (focus rfl); go_simp)
              refine (H.out.2.2.2.2.2 _ x HR.out.2.2.1.drew x0 HR.out.2.2.2.2.2.2).mono ?_
              rintro e wa ⟨rfl, rfl⟩
              refine hK.out _ _ hcB ?_
              clear hK K
              (try simp only [Act.put, zA, zB, zC])
              refine orde_e ?_
              (refine ope_e (o := ?_) ?_ ?_ (fun K hK => ?_); rotate_left 1; (focus ((simp only [zD, zE, zF]) <;> rfl)); (focus rfl); go_simp)
              have hb1 : Below wr.heap.size wr (wr.alloc (.cells #[.int .i64 (f x)] 3)).drew := ((Below.refl _ _).alloc (Nat.le_refl _) _).drew
              have hs1 : Sl (wr.alloc (.cells #[.int .i64 (f x)] 3)).drew (some ⟨wr.heap.size, 0, none⟩) [.int .i64 (f x)] := (Sl.new wr _ _).drew
              revert hb1 hs1
              generalize (wr.alloc (.cells #[.int .i64 (f x)] 3)).drew = W1
              intro hb1 hs1
              have hO1 := HR.out.1.below hb1
              refine hK.out _ _ (blk_all hO1.blk).1 ?_
              clear hK K
              have HW1 := Lib.hid (And.intro hO1 (And.intro hs1 (And.intro (HR.out.2.1.trans (hb1.mono (by omega))) (show w.heap.size + 2 ≤ W1.heap.size from Nat.le_trans hsz hb1.size))))
              have hs1z := HW1.out.2.2.2
              clear hO1 hb1 hs1 hcB
              (try simp only [Act.put, zA, zB, zC])
              refine orde_e ?_
              (refine ope_e (o := ?_) ?_ ?_ (fun K hK => ?_); rotate_left 1; (focus ((simp only [zD, zE, zF]) <;> rfl)); (focus rfl))
              refine wp_app (.tmp 69) (.tmp 73) rfl elem_int (by have h1 := HW1.out.1.o; rw [HR.out.2.2.2.2.1] at h1; exact h1) rfl rfl (by simp) HW1.out.2.1 (by simp [Value.oneCell']) (k + 1) rfl (ints ((c.outs.take (k + 1)).map f)) (by rw [map_snoc HR.out.2.2.2.1, ← ints_append]; rfl) (by unfold maxLen; omega) (by omega) (by omega) ?_
              intro s6 c6 W2 ho6 hb6 hg6 hob6
              obtain ⟨hB2, hO2⟩ := HW1.out.1.pushO hg6 (xo' := ((c.outs.take (k + 1)).map f)) (by rw [HR.out.2.2.2.2.2.1]; exact ho6) hob6
              refine hK.out _ _ (blk_all hB2).1 ?_
              clear hK K
              have y1 : W2.cell? ⟨w.heap.size + 1, 3, none⟩ = some (.slice s k cc) := blk_cell hB2
              have y2 : W2.frozen? ⟨w.heap.size + 1, 3, none⟩ = false := blk_free hB2
              have HW2 := Lib.hid (And.intro hO2 (HW1.out.2.2.1.trans hb6))
              clear hB2 hO2 ho6 hb6 hg6 hob6
              (try simp only [Act.put, zA, zB, zC])
              repeat (first | (refine orde_s (o := ?_) ?_ ?_ ?_; rotate_left 1; (focus ((simp only [zD, zE, zF]) <;> rfl)); (focus rfl); simp only [Act.put, zA, zB, zC]) | (refine orde_q (o := ?_) (v := ?_) ?_ ?_ ?_ ?_; rotate_left 2; (focus ((simp only [zD, zE, zF]) <;> rfl)); (focus rfl); (focus (intro w' hS; (try dsimp only at hS); go_split_ands; go_simp; (try (with_reducible rfl)))); simp only [Act.put, zA, zB, zC]))
              (refine orde_z (o := ?_) ?_ ?_ (fun K hK => ?_); rotate_left 1; (focus ((simp only [zD, zE, zF]) <;> rfl)); (focus rfl); go_simp)
              refine hK.out _ _ ?_
              clear hK K y1 y2
              go_wp2_with fail
              go_roundw
              case rel => exact ⟨k + 1, s6, c6, by omega, by go_num, HW2.out.1, HW2.out.2.setCell (p := ⟨w.heap.size + 1, 3, none⟩) (Nat.le_refl _) _⟩
              case measure => simp [intOf]; omega
            · obtain rfl : k = c.outs.length := by omega
              rw [List.take_length] at hO
              have HX3 := Lib.hid (And.intro hO (And.intro hbl hbw))
              have ccx := (CC.out _ hbw)
              obtain ⟨z0, z1, z2, z3⟩ := ccx
              clear hO hbl hbw hlk hlk1
              have hO := HX3.out.1
              obtain ⟨sN, cN, rfl⟩ := HvN.out
              obtain ⟨sG, cG, rfl⟩ := HvG.out
              have hres := blk_below HX3.out.2.1 (Nat.lt_succ_self _) H0.out.2.2.1
              have cB := (blk_all hO.blk).1
              obtain ⟨rc, rf⟩ := blk_all hres
              have HF := Lib.hid (And.intro hO (And.intro HX3.out.2.2 hres))
              clear hO hres
              go_wp2_with fail
              have e1 : (c.next.map f).length = c.next.length := by simp
              have e2 : (mapG f c.gates).length = c.gates.length := by simp [mapG]
              have e3 : (c.outs.map f).length = c.outs.length := by simp
              have ne : ∀ {v : Value} {e : TypeId} {sz n : Nat} {xs : List Value}, wr.ownsRow (w.heap.size + 1) e sz v n xs → v.ownBlock ≠ some w.heap.size := fun h he => by
                have := (own_blk h he).1; omega
              have hZ : ((((wr.setCell ⟨w.heap.size, 0, none⟩ (.int .i64 c.inp)).setCell ⟨w.heap.size, 1, none⟩ (.slice sN c.next.length cN)).setCell ⟨w.heap.size, 2, none⟩ (.slice sG c.gates.length cG)).setCell ⟨w.heap.size, 3, none⟩ (.slice s c.outs.length cc)).heap[w.heap.size]? = some (.cells #[.int .i64 c.inp, .slice sN c.next.length cN, .slice sG c.gates.length cG, .slice s c.outs.length cc] 28 (0, 0)) := by
                simpa using blk_set (o := 3) (v := .slice s c.outs.length cc) (blk_set (o := 2) (v := .slice sG c.gates.length cG) (blk_set (o := 1) (v := .slice sN c.next.length cN) (blk_set (o := 0) (v := .int .i64 c.inp) HF.out.2.2)))
              have hR : CirOwn ((((wr.setCell ⟨w.heap.size, 0, none⟩ (.int .i64 c.inp)).setCell ⟨w.heap.size, 1, none⟩ (.slice sN c.next.length cN)).setCell ⟨w.heap.size, 2, none⟩ (.slice sG c.gates.length cG)).setCell ⟨w.heap.size, 3, none⟩ (.slice s c.outs.length cc)) w.heap.size (c.mapC f) (.slice sN c.next.length cN) (.slice sG c.gates.length cG) (.slice s c.outs.length cc) :=
                ⟨own_sets4 HF.out.1.n (ne HF.out.1.n), own_sets4 HF.out.1.g (ne HF.out.1.g), own_sets4 HF.out.1.o (ne HF.out.1.o), HF.out.1.ne, by rw [show (c.mapC f).next.length = c.next.length from e1]; omega, by rw [show (c.mapC f).gates.length = c.gates.length from e2]; omega, by rw [show (c.mapC f).outs.length = c.outs.length from e3]; omega⟩
              have hB := (((HF.out.2.1.setCell (p := ⟨w.heap.size, 0, none⟩) (Nat.le_refl _) (.int .i64 c.inp)).setCell (p := ⟨w.heap.size, 1, none⟩) (Nat.le_refl _) (.slice sN c.next.length cN)).setCell (p := ⟨w.heap.size, 2, none⟩) (Nat.le_refl _) (.slice sG c.gates.length cG)).setCell (p := ⟨w.heap.size, 3, none⟩) (Nat.le_refl _) (.slice s c.outs.length cc)
              revert hZ hR hB
              generalize ((((wr.setCell ⟨w.heap.size, 0, none⟩ (.int .i64 c.inp)).setCell ⟨w.heap.size, 1, none⟩ (.slice sN c.next.length cN)).setCell ⟨w.heap.size, 2, none⟩ (.slice sG c.gates.length cG)).setCell ⟨w.heap.size, 3, none⟩ (.slice s c.outs.length cc)) = WZ
              intro hZ hR hB
              have cr := (blk_all hZ).1
              exact bodyPost_ret (v := .agg #[.int .i64 c.inp, .slice sN c.next.length cN, .slice sG c.gates.length cG, .slice s c.outs.length cc]) (by simp [results, Try.results64, go_sem, cr]) rfl ⟨_, _, _, rfl, hR, hB⟩

set_option maxRecDepth 100000 in
set_option maxHeartbeats 3200000 in
theorem replacedP_any (b b1 V : Nat) (c : Cir) (f : Int → Int) (sn sg so : Option Addr) (cn cg co : Nat) (w : World) (h : CirAt w b c.inp (.slice sn c.next.length cn) (.slice sg c.gates.length cg) (.slice so c.outs.length co))
    (hn : Sl w sn (ints c.next)) (hg : Sl w sg (gcells c.gates)) (ho : Sl w so (ints c.outs)) (hv : CV c V)
    (hu : ∀ W (l : Int), Below w.heap.size w W → 0 ≤ l → l / 2 < (V : Int) → Calls Try.prog (94) #[.int .i64 l, .pointer (some ⟨b1, 0, none⟩)] W fun e w' => e = .returned (.int .i64 (f l)) ∧ W = w') :
    Calls Try.prog 64 #[.pointer (some ⟨b, 0, none⟩), .func (.func (94)) #[] #[.pointer (some ⟨b1, 0, none⟩)]] w fun e w' => ∃ vn vg vo, e = .returned (.agg #[.int .i64 c.inp, vn, vg, vo]) ∧ CirOwn w' w.heap.size (c.mapC f) vn vg vo ∧ Below w.heap.size w w' := by
  have HB : Hid (b < w.heap.size) := World.block_lt_of_cell? w _ h.h0
  obtain ⟨q1, q2, q3, q4, q5⟩ := id hv.lim
  have H := Lib.hid (And.intro h (And.intro hn (And.intro hg (And.intro ho (And.intro hv hu)))))
  have CC : Hid (∀ W, Below w.heap.size w W → CirAt W b c.inp (.slice sn c.next.length cn) (.slice sg c.gates.length cg) (.slice so c.outs.length co)) := fun W hb => ⟨(hb.cell (p := ⟨b, 0, none⟩) HB.out).trans H.out.1.h0, (hb.cell (p := ⟨b, 1, none⟩) HB.out).trans H.out.1.h1, (hb.cell (p := ⟨b, 2, none⟩) HB.out).trans H.out.1.h2, (hb.cell (p := ⟨b, 3, none⟩) HB.out).trans H.out.1.h3⟩
  obtain ⟨z0, z1, z2, z3⟩ := h
  clear hn hg ho hv hu
  have hb0 : Below w.heap.size w ((w.alloc (.cells #[.int .i64 0, .slice none 0 0, .slice none 0 0, .slice none 0 0] 28)).alloc (.cells #[.int .i64 c.inp, .slice none 0 0, .slice none 0 0, .slice none 0 0] 28)) := by go_grown
  have hk0 : OutC ((w.alloc (.cells #[.int .i64 0, .slice none 0 0, .slice none 0 0, .slice none 0 0] 28)).alloc (.cells #[.int .i64 c.inp, .slice none 0 0, .slice none 0 0, .slice none 0 0] 28)) (w.heap.size + 1) (w.heap.size + 1) c.inp [] [] [] (.slice none 0 0) (.slice none 0 0) (.slice none 0 0) :=
    ⟨blk_at (by simp), World.ownsRow_nil _ _ _ _, World.ownsRow_nil _ _ _ _, World.ownsRow_nil _ _ _ _, fun k hk => by cases hk⟩
  have hr0 := blk_old (o := .cells #[.int .i64 c.inp, .slice none 0 0, .slice none 0 0, .slice none 0 0] 28) (blk_new w (.cells #[.int .i64 0, .slice none 0 0, .slice none 0 0, .slice none 0 0] 28))
  have H0 := Lib.hid (And.intro hb0 (And.intro hk0 (And.intro hr0 (show w.heap.size + 2 ≤ ((w.alloc (.cells #[.int .i64 0, .slice none 0 0, .slice none 0 0, .slice none 0 0] 28)).alloc (.cells #[.int .i64 c.inp, .slice none 0 0, .slice none 0 0, .slice none 0 0] 28)).heap.size by simp))))
  clear hb0 hk0 hr0
  have hbB := HB.out
  go_enter Try.func64, Try.ntmps64
  go_wp2_with fail
  revert H0
  generalize ((w.alloc (.cells #[.int .i64 0, .slice none 0 0, .slice none 0 0, .slice none 0 0] 28)).alloc (.cells #[.int .i64 c.inp, .slice none 0 0, .slice none 0 0, .slice none 0 0] 28)) = W0
  intro H0
  go_loopw [22] (fun i wr => ∃ (k : Nat) (s : Option Addr) (cc : Nat), k ≤ c.next.length ∧ i = .int .i64 k ∧ OutC wr (w.heap.size + 1) (w.heap.size + 1) c.inp ((c.next.take k).map f) [] [] (.slice s k cc) (.slice none 0 0) (.slice none 0 0) ∧ Below (w.heap.size + 1) W0 wr) (fun i _ => c.next.length - (intOf i).toNat)
  case atStart => exact ⟨0, _, _, Nat.zero_le _, rfl, H0.out.2.1, Below.refl _ _⟩
  case round =>
    obtain ⟨k, s, cc, hk, rfl, hO, hbl⟩ := hrel
    have hbw : Below w.heap.size w wr := H0.out.1.trans (hbl.mono (Nat.le_succ _))
    have hsz : w.heap.size + 2 ≤ wr.heap.size := Nat.le_trans H0.out.2.2.2 hbl.size
    have hlk : ((c.next.take k).map f).length = k := by simp; omega
    have hlk1 : k < c.next.length → ((c.next.take (k + 1)).map f).length = k + 1 := fun h => by simp; omega
    by_cases hlt : k < c.next.length
    · obtain ⟨x, hx⟩ := get_of_lt hlt
      obtain ⟨xb, xf, rfl, hxb, zx⟩ := H.out.2.1.int hbw hx
      obtain ⟨x0, x1⟩ : 0 ≤ x ∧ x < 2 * (V : Int) := H.out.2.2.2.2.1.next x (List.mem_of_getElem? hx)
      have hcB := (blk_all hO.blk).1
      have HR := Lib.hid (And.intro hO (And.intro hbl (And.intro hbw (And.intro hx (And.intro hlk (And.intro (hlk1 hlt) (show x / 2 < (V : Int) by omega)))))))
      clear hO hbl hbw hx hlk hlk1 hxb x1
      go_upto_region 5 with fail
      refine wp_region_E (fun w' => ∀ o, w'.cell? ⟨w.heap.size + 1, o, none⟩ = #[Value.int .i64 c.inp, .slice s k cc, .slice none 0 0, .slice none 0 0][o]?) 8 (.q 0 (.q 1 (.q 2 (.q 3 (.e 4 (.e 5 (.e 6 (.q 7 (.z 8))))))))) (by kernel_rfl) (by kernel_rfl) (by kernel_rfl) (by kernel_rfl) (by kernel_rfl) (by kernel_rfl) hcB ?_
      repeat (first | (refine orde_s (o := ?_) ?_ ?_ ?_; rotate_left 1; (focus ((simp only [zD, zE, zF]) <;> rfl)); (focus rfl); simp only [Act.put, zA, zB, zC]) | (refine orde_q (o := ?_) (v := ?_) ?_ ?_ ?_ ?_; rotate_left 2; (focus ((simp only [zD, zE, zF]) <;> rfl)); (focus rfl); (focus (intro w' hS; (try dsimp only at hS); go_split_ands; go_simp; (try (with_reducible rfl)))); simp only [Act.put, zA, zB, zC]))
      refine orde_e ?_
      (refine ope_e (o := ?_) ?_ ?_ (fun K hK => ?_); rotate_left 1; (focus ((simp only [zD, zE, zF]) <;> rfl)); (focus rfl); go_simp)
      refine (H.out.2.2.2.2.2 _ x HR.out.2.2.1.drew x0 HR.out.2.2.2.2.2.2).mono ?_
      rintro e wa ⟨rfl, rfl⟩
      refine hK.out _ _ hcB ?_
      clear hK K
      (try simp only [Act.put, zA, zB, zC])
      refine orde_e ?_
      (refine ope_e (o := ?_) ?_ ?_ (fun K hK => ?_); rotate_left 1; (focus ((simp only [zD, zE, zF]) <;> rfl)); (focus rfl); go_simp)
      have hb1 : Below wr.heap.size wr (wr.alloc (.cells #[.int .i64 (f x)] 3)).drew := ((Below.refl _ _).alloc (Nat.le_refl _) _).drew
      have hs1 : Sl (wr.alloc (.cells #[.int .i64 (f x)] 3)).drew (some ⟨wr.heap.size, 0, none⟩) [.int .i64 (f x)] := (Sl.new wr _ _).drew
      revert hb1 hs1
      generalize (wr.alloc (.cells #[.int .i64 (f x)] 3)).drew = W1
      intro hb1 hs1
      have hO1 := HR.out.1.below hb1
      refine hK.out _ _ (blk_all hO1.blk).1 ?_
      clear hK K
      have HW1 := Lib.hid (And.intro hO1 (And.intro hs1 (And.intro (HR.out.2.1.trans (hb1.mono (by omega))) (show w.heap.size + 2 ≤ W1.heap.size from Nat.le_trans hsz hb1.size))))
      have hs1z := HW1.out.2.2.2
      clear hO1 hb1 hs1 hcB
      (try simp only [Act.put, zA, zB, zC])
      refine orde_e ?_
      (refine ope_e (o := ?_) ?_ ?_ (fun K hK => ?_); rotate_left 1; (focus ((simp only [zD, zE, zF]) <;> rfl)); (focus rfl))
      refine wp_app (.tmp 27) (.tmp 31) rfl elem_int (by have h1 := HW1.out.1.n; rw [HR.out.2.2.2.2.1] at h1; exact h1) rfl rfl (by simp) HW1.out.2.1 (by simp [Value.oneCell']) (k + 1) rfl (ints ((c.next.take (k + 1)).map f)) (by rw [map_snoc HR.out.2.2.2.1, ← ints_append]; rfl) (by unfold maxLen; omega) (by omega) (by omega) ?_
      intro s6 c6 W2 ho6 hb6 hg6 hob6
      obtain ⟨hB2, hO2⟩ := HW1.out.1.pushN hg6 (xn' := ((c.next.take (k + 1)).map f)) (by rw [HR.out.2.2.2.2.2.1]; exact ho6) hob6
      refine hK.out _ _ (blk_all hB2).1 ?_
      clear hK K
      have y1 : W2.cell? ⟨w.heap.size + 1, 1, none⟩ = some (.slice s k cc) := blk_cell hB2
      have y2 : W2.frozen? ⟨w.heap.size + 1, 1, none⟩ = false := blk_free hB2
      have HW2 := Lib.hid (And.intro hO2 (HW1.out.2.2.1.trans hb6))
      clear hB2 hO2 ho6 hb6 hg6 hob6
      (try simp only [Act.put, zA, zB, zC])
      repeat (first | (refine orde_s (o := ?_) ?_ ?_ ?_; rotate_left 1; (focus ((simp only [zD, zE, zF]) <;> rfl)); (focus rfl); simp only [Act.put, zA, zB, zC]) | (refine orde_q (o := ?_) (v := ?_) ?_ ?_ ?_ ?_; rotate_left 2; (focus ((simp only [zD, zE, zF]) <;> rfl)); (focus rfl); (focus (intro w' hS; (try dsimp only at hS); go_split_ands; go_simp; (try (with_reducible rfl)))); simp only [Act.put, zA, zB, zC]))
      (refine orde_z (o := ?_) ?_ ?_ (fun K hK => ?_); rotate_left 1; (focus ((simp only [zD, zE, zF]) <;> rfl)); (focus rfl); go_simp)
      refine hK.out _ _ ?_
      clear hK K y1 y2
      go_wp2_with fail
      go_roundw
      case rel => exact ⟨k + 1, s6, c6, by omega, by go_num, HW2.out.1, HW2.out.2.setCell (p := ⟨w.heap.size + 1, 1, none⟩) (Nat.le_refl _) _⟩
      case measure => simp [intOf]; omega
    · obtain rfl : k = c.next.length := by omega
      rw [List.take_length] at hO
      have HX1 := Lib.hid (And.intro hO (And.intro hbl hbw))
      have ccx := (CC.out _ hbw)
      obtain ⟨z0, z1, z2, z3⟩ := ccx
      clear hO hbl hbw hlk hlk1
      obtain ⟨vN, hvN⟩ : ∃ vN, vN = Value.slice s c.next.length cc := ⟨_, rfl⟩
      have hO := HX1.out.1
      have hbl := HX1.out.2.1
      rw [← hvN] at hO
      have HY1 := Lib.hid (And.intro hO hbl)
      have HvN : Hid (∃ s' c', vN = Value.slice s' c.next.length c') := ⟨_, _, hvN⟩
      clear hO hbl hvN HX1
      go_wp2_with fail
      clear z0 z1 z2 z3
      go_loopw [40] (fun i wr => ∃ (k : Nat) (s : Option Addr) (cc : Nat), k ≤ c.gates.length ∧ i = .int .i64 k ∧ OutC wr (w.heap.size + 1) (w.heap.size + 1) c.inp (c.next.map f) (mapG f (c.gates.take k)) [] vN (.slice s k cc) (.slice none 0 0) ∧ Below (w.heap.size + 1) W0 wr) (fun i _ => c.gates.length - (intOf i).toNat)
      case atStart => exact ⟨0, _, _, Nat.zero_le _, rfl, HY1.out.1, HY1.out.2⟩
      case round =>
        obtain ⟨k, s, cc, hk, rfl, hO, hbl⟩ := hrel
        have hbw : Below w.heap.size w wr := H0.out.1.trans (hbl.mono (Nat.le_succ _))
        have hsz : w.heap.size + 2 ≤ wr.heap.size := Nat.le_trans H0.out.2.2.2 hbl.size
        have hlk : (mapG f (c.gates.take k)).length = k := by simp [mapG]; omega
        have hlk1 : k < c.gates.length → (mapG f (c.gates.take (k + 1))).length = k + 1 := fun h => by simp [mapG]; omega
        by_cases hlt : k < c.gates.length
        · obtain ⟨g, hg⟩ := get_of_lt hlt
          obtain ⟨gb, gf, rfl, hgb, zx, zy⟩ := H.out.2.2.1.gate hbw hg
          obtain ⟨⟨a0, a1⟩, b0, b1⟩ := H.out.2.2.2.2.1.gates g (List.mem_of_getElem? hg)
          have hblkL := blk_lt hO.blk
          have HR := Lib.hid (And.intro hO (And.intro hbl (And.intro hbw (And.intro hg (And.intro hlk (And.intro (hlk1 hlt) (show g.a / 2 < (V : Int) ∧ g.b / 2 < (V : Int) by omega)))))))
          clear hO hbl hbw hg hlk hlk1 hgb a1 b1
          go_upto_region 10 with fail
          have hb0 : Below wr.heap.size wr (wr.alloc (.cells #[.int .i64 g.a, .int .i64 g.b] 24)) := (Below.refl _ _).alloc (Nat.le_refl _) _
          have hn0 := blk_new wr (.cells #[.int .i64 g.a, .int .i64 g.b] 24)
          have hz0 : (wr.alloc (.cells #[.int .i64 g.a, .int .i64 g.b] 24)).heap.size = wr.heap.size + 1 := by simp
          clear zx zy
          revert hb0 hn0 hz0
          generalize wr.alloc (.cells #[.int .i64 g.a, .int .i64 g.b] 24) = WG
          intro hb0 hn0 hz0
          have hOg := HR.out.1.below hb0
          have HG := Lib.hid (And.intro hOg (And.intro hn0 (And.intro (HR.out.2.1.trans (hb0.mono (by omega))) (HR.out.2.2.1.trans (hb0.mono (by omega))))))
          have hcB := (blk_all hOg.blk).1
          have hc0 : WG.cell? ⟨wr.heap.size, 0, none⟩ = some (.int .i64 g.a) := blk_cell hn0
          have hc1 : WG.cell? ⟨wr.heap.size, 1, none⟩ = some (.int .i64 g.b) := blk_cell hn0
          clear hb0 hn0 hOg
          refine wp_region_E (fun w' => (∀ o, w'.cell? ⟨w.heap.size + 1, o, none⟩ = #[Value.int .i64 c.inp, vN, .slice s k cc, .slice none 0 0][o]?) ∧ w'.cell? ⟨wr.heap.size, 0, none⟩ = some (.int .i64 g.a) ∧ w'.cell? ⟨wr.heap.size, 1, none⟩ = some (.int .i64 g.b)) 14 (.q 0 (.q 1 (.q 2 (.q 3 (.q 4 (.q 6 (.q 7 (.q 8 (.e 5 (.e 9 (.q 10 (.e 11 (.e 12 (.q 13 (.z 14))))))))))))))) (by kernel_rfl) (by kernel_rfl) (by kernel_rfl) (by kernel_rfl) (by kernel_rfl) (by kernel_rfl) ⟨hcB, hc0, hc1⟩ ?_
          repeat (first | (refine orde_s (o := ?_) ?_ ?_ ?_; rotate_left 1; (focus ((simp only [zD, zE, zF]) <;> rfl)); (focus rfl); simp only [Act.put, zA, zB, zC]) | (refine orde_q (o := ?_) (v := ?_) ?_ ?_ ?_ ?_; rotate_left 2; (focus ((simp only [zD, zE, zF]) <;> rfl)); (focus rfl); (focus (intro w' hS; (try dsimp only at hS); go_split_ands; go_simp; (try (with_reducible rfl)))); simp only [Act.put, zA, zB, zC]))
          refine orde_e ?_
          (refine ope_e (o := ?_) ?_ ?_ (fun K hK => ?_); rotate_left 1; (focus ((simp only [zD, zE, zF]) <;> rfl)); (focus rfl); go_simp)
          refine (H.out.2.2.2.2.2 _ g.a HG.out.2.2.2.drew a0 HR.out.2.2.2.2.2.2.1).mono ?_
          rintro e wa ⟨rfl, rfl⟩
          refine hK.out _ _ ⟨hcB, hc0, hc1⟩ ?_
          clear hK K
          (try simp only [Act.put, zA, zB, zC])
          refine orde_e ?_
          (refine ope_e (o := ?_) ?_ ?_ (fun K hK => ?_); rotate_left 1; (focus ((simp only [zD, zE, zF]) <;> rfl)); (focus rfl); go_simp)
          refine (H.out.2.2.2.2.2 _ g.b HG.out.2.2.2.drew b0 HR.out.2.2.2.2.2.2.2).mono ?_
          rintro e wa ⟨rfl, rfl⟩
          refine hK.out _ _ ⟨hcB, hc0, hc1⟩ ?_
          clear hK K
          (try simp only [Act.put, zA, zB, zC])
          repeat (first | (refine orde_s (o := ?_) ?_ ?_ ?_; rotate_left 1; (focus ((simp only [zD, zE, zF]) <;> rfl)); (focus rfl); simp only [Act.put, zA, zB, zC]) | (refine orde_q (o := ?_) (v := ?_) ?_ ?_ ?_ ?_; rotate_left 2; (focus ((simp only [zD, zE, zF]) <;> rfl)); (focus rfl); (focus (intro w' hS; (try dsimp only at hS); go_split_ands; go_simp; (try (with_reducible rfl)))); simp only [Act.put, zA, zB, zC]))
          refine orde_e ?_
          (refine ope_e (o := ?_) ?_ ?_ (fun K hK => ?_); rotate_left 1; (focus ((simp only [zD, zE, zF]) <;> rfl)); (focus rfl); go_simp)
          have hb1 : Below WG.heap.size WG (WG.alloc (.cells #[.int .i64 (f g.a), .int .i64 (f g.b)] 24)).drew := ((Below.refl _ _).alloc (Nat.le_refl _) _).drew
          have hs1 : Sl (WG.alloc (.cells #[.int .i64 (f g.a), .int .i64 (f g.b)] 24)).drew (some ⟨wr.heap.size + 1, 0, none⟩) [.int .i64 (f g.a), .int .i64 (f g.b)] := by rw [← hz0]; exact (Sl.new WG _ _).drew
          revert hb1 hs1
          generalize (WG.alloc (.cells #[.int .i64 (f g.a), .int .i64 (f g.b)] 24)).drew = W1
          intro hb1 hs1
          have hO1 := HG.out.1.below hb1
          have hg1 := blk_below hb1 (by omega) HG.out.2.1
          refine hK.out _ _ ⟨(blk_all hO1.blk).1, blk_cell hg1, blk_cell hg1⟩ ?_
          clear hK K
          have HW1 := Lib.hid (And.intro hO1 (And.intro hs1 (And.intro (HG.out.2.2.1.trans (hb1.mono (by omega))) (And.intro (show w.heap.size + 2 ≤ W1.heap.size by have := hb1.size; omega) hg1))))
          have hs1z := HW1.out.2.2.2.1
          clear hO1 hb1 hs1 hcB hc0 hc1 hg1
          (try simp only [Act.put, zA, zB, zC])
          refine orde_e ?_
          (refine ope_e (o := ?_) ?_ ?_ (fun K hK => ?_); rotate_left 1; (focus ((simp only [zD, zE, zF]) <;> rfl)); (focus rfl))
          refine wp_app (.tmp 45) (.tmp 55) rfl elem_gate (by have h1 := HW1.out.1.g; rw [HR.out.2.2.2.2.1] at h1; exact h1) rfl rfl (by simp) HW1.out.2.1 (by simp [Value.oneCell']) (k + 1) rfl (gcells (mapG f (c.gates.take (k + 1)))) (by rw [mapG_snoc HR.out.2.2.2.1, ← gcells_append]; rfl) (by unfold maxLen; omega) (by omega) (by omega) ?_
          intro s6 c6 W2 ho6 hb6 hg6 hob6
          obtain ⟨hB2, hO2⟩ := HW1.out.1.pushG hg6 (xg' := mapG f (c.gates.take (k + 1))) (by rw [HR.out.2.2.2.2.2.1]; exact ho6)
          have hgx : W2.heap[wr.heap.size]? = some (.cells #[.int .i64 g.a, .int .i64 g.b] 24 (0, 0)) := by
            rw [hg6.block wr.heap.size (blk_lt HW1.out.2.2.2.2) (fun e => by have h1 := HR.out.1.g; have h2 := (own_blk h1 e.symm).2; omega)]; exact HW1.out.2.2.2.2
          refine hK.out _ _ ⟨(blk_all hB2).1, blk_cell hgx, blk_cell hgx⟩ ?_
          clear hK K
          have y1 : W2.cell? ⟨w.heap.size + 1, 2, none⟩ = some (.slice s k cc) := blk_cell hB2
          have y2 : W2.frozen? ⟨w.heap.size + 1, 2, none⟩ = false := blk_free hB2
          have HW2 := Lib.hid (And.intro hO2 (HW1.out.2.2.1.trans hb6))
          clear hB2 hO2 ho6 hb6 hg6 hob6 hgx
          (try simp only [Act.put, zA, zB, zC])
          repeat (first | (refine orde_s (o := ?_) ?_ ?_ ?_; rotate_left 1; (focus ((simp only [zD, zE, zF]) <;> rfl)); (focus rfl); simp only [Act.put, zA, zB, zC]) | (refine orde_q (o := ?_) (v := ?_) ?_ ?_ ?_ ?_; rotate_left 2; (focus ((simp only [zD, zE, zF]) <;> rfl)); (focus rfl); (focus (intro w' hS; (try dsimp only at hS); go_split_ands; go_simp; (try (with_reducible rfl)))); simp only [Act.put, zA, zB, zC]))
          (refine orde_z (o := ?_) ?_ ?_ (fun K hK => ?_); rotate_left 1; (focus ((simp only [zD, zE, zF]) <;> rfl)); (focus rfl); go_simp)
          refine hK.out _ _ ?_
          clear hK K y1 y2
          go_wp2_with fail
          go_roundw
          case rel => exact ⟨k + 1, s6, c6, by omega, by go_num, HW2.out.1, HW2.out.2.setCell (p := ⟨w.heap.size + 1, 2, none⟩) (Nat.le_refl _) _⟩
          case measure => simp [intOf]; omega
        · obtain rfl : k = c.gates.length := by omega
          rw [List.take_length] at hO
          obtain ⟨vG, hvG⟩ : ∃ vG, vG = Value.slice s c.gates.length cc := ⟨_, rfl⟩
          rw [← hvG] at hO
          have HY2 := Lib.hid (And.intro hO hbl)
          have ccx := (CC.out _ hbw)
          obtain ⟨z0, z1, z2, z3⟩ := ccx
          have HvG : Hid (∃ s' c', vG = Value.slice s' c.gates.length c') := ⟨_, _, hvG⟩
          clear hO hbl hbw hlk hlk1 hvG
          go_wp2_with fail
          clear z0 z1 z2 z3
          go_loopw [64] (fun i wr => ∃ (k : Nat) (s : Option Addr) (cc : Nat), k ≤ c.outs.length ∧ i = .int .i64 k ∧ OutC wr (w.heap.size + 1) (w.heap.size + 1) c.inp (c.next.map f) (mapG f c.gates) ((c.outs.take k).map f) (vN) (vG) (.slice s k cc) ∧ Below (w.heap.size + 1) W0 wr) (fun i _ => c.outs.length - (intOf i).toNat)
          case atStart => exact ⟨0, _, _, Nat.zero_le _, rfl, HY2.out.1, HY2.out.2⟩
          case round =>
            obtain ⟨k, s, cc, hk, rfl, hO, hbl⟩ := hrel
            have hbw : Below w.heap.size w wr := H0.out.1.trans (hbl.mono (Nat.le_succ _))
            have hsz : w.heap.size + 2 ≤ wr.heap.size := Nat.le_trans H0.out.2.2.2 hbl.size
            have hlk : ((c.outs.take k).map f).length = k := by simp; omega
            have hlk1 : k < c.outs.length → ((c.outs.take (k + 1)).map f).length = k + 1 := fun h => by simp; omega
            by_cases hlt : k < c.outs.length
            · obtain ⟨x, hx⟩ := get_of_lt hlt
              obtain ⟨xb, xf, rfl, hxb, zx⟩ := H.out.2.2.2.1.int hbw hx
              obtain ⟨x0, x1⟩ : 0 ≤ x ∧ x < 2 * (V : Int) := H.out.2.2.2.2.1.outs x (List.mem_of_getElem? hx)
              have hcB := (blk_all hO.blk).1
              have HR := Lib.hid (And.intro hO (And.intro hbl (And.intro hbw (And.intro hx (And.intro hlk (And.intro (hlk1 hlt) (show x / 2 < (V : Int) by omega)))))))
              clear hO hbl hbw hx hlk hlk1 hxb x1
              go_upto_region 15 with fail
              refine wp_region_E (fun w' => ∀ o, w'.cell? ⟨w.heap.size + 1, o, none⟩ = #[Value.int .i64 c.inp, vN, vG, .slice s k cc][o]?) 8 (.q 0 (.q 1 (.q 2 (.q 3 (.e 4 (.e 5 (.e 6 (.q 7 (.z 8))))))))) (by kernel_rfl) (by kernel_rfl) (by kernel_rfl) (by kernel_rfl) (by kernel_rfl) (by kernel_rfl) hcB ?_
              repeat (first | (refine orde_s (o := ?_) ?_ ?_ ?_; rotate_left 1; (focus ((simp only [zD, zE, zF]) <;> rfl)); (focus rfl); simp only [Act.put, zA, zB, zC]) | (refine orde_q (o := ?_) (v := ?_) ?_ ?_ ?_ ?_; rotate_left 2; (focus ((simp only [zD, zE, zF]) <;> rfl)); (focus rfl); (focus (intro w' hS; (try dsimp only at hS); go_split_ands; go_simp; (try (with_reducible rfl)))); simp only [Act.put, zA, zB, zC]))
              refine orde_e ?_
              (refine ope_e (o := ?_) ?_ ?_ (fun K hK => ?_); rotate_left 1; (focus ((simp only [zD, zE, zF]) <;> rfl)); (focus rfl); go_simp)
              refine (H.out.2.2.2.2.2 _ x HR.out.2.2.1.drew x0 HR.out.2.2.2.2.2.2).mono ?_
              rintro e wa ⟨rfl, rfl⟩
              refine hK.out _ _ hcB ?_
              clear hK K
              (try simp only [Act.put, zA, zB, zC])
              refine orde_e ?_
              (refine ope_e (o := ?_) ?_ ?_ (fun K hK => ?_); rotate_left 1; (focus ((simp only [zD, zE, zF]) <;> rfl)); (focus rfl); go_simp)
              have hb1 : Below wr.heap.size wr (wr.alloc (.cells #[.int .i64 (f x)] 3)).drew := ((Below.refl _ _).alloc (Nat.le_refl _) _).drew
              have hs1 : Sl (wr.alloc (.cells #[.int .i64 (f x)] 3)).drew (some ⟨wr.heap.size, 0, none⟩) [.int .i64 (f x)] := (Sl.new wr _ _).drew
              revert hb1 hs1
              generalize (wr.alloc (.cells #[.int .i64 (f x)] 3)).drew = W1
              intro hb1 hs1
              have hO1 := HR.out.1.below hb1
              refine hK.out _ _ (blk_all hO1.blk).1 ?_
              clear hK K
              have HW1 := Lib.hid (And.intro hO1 (And.intro hs1 (And.intro (HR.out.2.1.trans (hb1.mono (by omega))) (show w.heap.size + 2 ≤ W1.heap.size from Nat.le_trans hsz hb1.size))))
              have hs1z := HW1.out.2.2.2
              clear hO1 hb1 hs1 hcB
              (try simp only [Act.put, zA, zB, zC])
              refine orde_e ?_
              (refine ope_e (o := ?_) ?_ ?_ (fun K hK => ?_); rotate_left 1; (focus ((simp only [zD, zE, zF]) <;> rfl)); (focus rfl))
              refine wp_app (.tmp 69) (.tmp 73) rfl elem_int (by have h1 := HW1.out.1.o; rw [HR.out.2.2.2.2.1] at h1; exact h1) rfl rfl (by simp) HW1.out.2.1 (by simp [Value.oneCell']) (k + 1) rfl (ints ((c.outs.take (k + 1)).map f)) (by rw [map_snoc HR.out.2.2.2.1, ← ints_append]; rfl) (by unfold maxLen; omega) (by omega) (by omega) ?_
              intro s6 c6 W2 ho6 hb6 hg6 hob6
              obtain ⟨hB2, hO2⟩ := HW1.out.1.pushO hg6 (xo' := ((c.outs.take (k + 1)).map f)) (by rw [HR.out.2.2.2.2.2.1]; exact ho6) hob6
              refine hK.out _ _ (blk_all hB2).1 ?_
              clear hK K
              have y1 : W2.cell? ⟨w.heap.size + 1, 3, none⟩ = some (.slice s k cc) := blk_cell hB2
              have y2 : W2.frozen? ⟨w.heap.size + 1, 3, none⟩ = false := blk_free hB2
              have HW2 := Lib.hid (And.intro hO2 (HW1.out.2.2.1.trans hb6))
              clear hB2 hO2 ho6 hb6 hg6 hob6
              (try simp only [Act.put, zA, zB, zC])
              repeat (first | (refine orde_s (o := ?_) ?_ ?_ ?_; rotate_left 1; (focus ((simp only [zD, zE, zF]) <;> rfl)); (focus rfl); simp only [Act.put, zA, zB, zC]) | (refine orde_q (o := ?_) (v := ?_) ?_ ?_ ?_ ?_; rotate_left 2; (focus ((simp only [zD, zE, zF]) <;> rfl)); (focus rfl); (focus (intro w' hS; (try dsimp only at hS); go_split_ands; go_simp; (try (with_reducible rfl)))); simp only [Act.put, zA, zB, zC]))
              (refine orde_z (o := ?_) ?_ ?_ (fun K hK => ?_); rotate_left 1; (focus ((simp only [zD, zE, zF]) <;> rfl)); (focus rfl); go_simp)
              refine hK.out _ _ ?_
              clear hK K y1 y2
              go_wp2_with fail
              go_roundw
              case rel => exact ⟨k + 1, s6, c6, by omega, by go_num, HW2.out.1, HW2.out.2.setCell (p := ⟨w.heap.size + 1, 3, none⟩) (Nat.le_refl _) _⟩
              case measure => simp [intOf]; omega
            · obtain rfl : k = c.outs.length := by omega
              rw [List.take_length] at hO
              have HX3 := Lib.hid (And.intro hO (And.intro hbl hbw))
              have ccx := (CC.out _ hbw)
              obtain ⟨z0, z1, z2, z3⟩ := ccx
              clear hO hbl hbw hlk hlk1
              have hO := HX3.out.1
              obtain ⟨sN, cN, rfl⟩ := HvN.out
              obtain ⟨sG, cG, rfl⟩ := HvG.out
              have hres := blk_below HX3.out.2.1 (Nat.lt_succ_self _) H0.out.2.2.1
              have cB := (blk_all hO.blk).1
              obtain ⟨rc, rf⟩ := blk_all hres
              have HF := Lib.hid (And.intro hO (And.intro HX3.out.2.2 hres))
              clear hO hres
              go_wp2_with fail
              have e1 : (c.next.map f).length = c.next.length := by simp
              have e2 : (mapG f c.gates).length = c.gates.length := by simp [mapG]
              have e3 : (c.outs.map f).length = c.outs.length := by simp
              have ne : ∀ {v : Value} {e : TypeId} {sz n : Nat} {xs : List Value}, wr.ownsRow (w.heap.size + 1) e sz v n xs → v.ownBlock ≠ some w.heap.size := fun h he => by
                have := (own_blk h he).1; omega
              have hZ : ((((wr.setCell ⟨w.heap.size, 0, none⟩ (.int .i64 c.inp)).setCell ⟨w.heap.size, 1, none⟩ (.slice sN c.next.length cN)).setCell ⟨w.heap.size, 2, none⟩ (.slice sG c.gates.length cG)).setCell ⟨w.heap.size, 3, none⟩ (.slice s c.outs.length cc)).heap[w.heap.size]? = some (.cells #[.int .i64 c.inp, .slice sN c.next.length cN, .slice sG c.gates.length cG, .slice s c.outs.length cc] 28 (0, 0)) := by
                simpa using blk_set (o := 3) (v := .slice s c.outs.length cc) (blk_set (o := 2) (v := .slice sG c.gates.length cG) (blk_set (o := 1) (v := .slice sN c.next.length cN) (blk_set (o := 0) (v := .int .i64 c.inp) HF.out.2.2)))
              have hR : CirOwn ((((wr.setCell ⟨w.heap.size, 0, none⟩ (.int .i64 c.inp)).setCell ⟨w.heap.size, 1, none⟩ (.slice sN c.next.length cN)).setCell ⟨w.heap.size, 2, none⟩ (.slice sG c.gates.length cG)).setCell ⟨w.heap.size, 3, none⟩ (.slice s c.outs.length cc)) w.heap.size (c.mapC f) (.slice sN c.next.length cN) (.slice sG c.gates.length cG) (.slice s c.outs.length cc) :=
                ⟨own_sets4 HF.out.1.n (ne HF.out.1.n), own_sets4 HF.out.1.g (ne HF.out.1.g), own_sets4 HF.out.1.o (ne HF.out.1.o), HF.out.1.ne, by rw [show (c.mapC f).next.length = c.next.length from e1]; omega, by rw [show (c.mapC f).gates.length = c.gates.length from e2]; omega, by rw [show (c.mapC f).outs.length = c.outs.length from e3]; omega⟩
              have hB := (((HF.out.2.1.setCell (p := ⟨w.heap.size, 0, none⟩) (Nat.le_refl _) (.int .i64 c.inp)).setCell (p := ⟨w.heap.size, 1, none⟩) (Nat.le_refl _) (.slice sN c.next.length cN)).setCell (p := ⟨w.heap.size, 2, none⟩) (Nat.le_refl _) (.slice sG c.gates.length cG)).setCell (p := ⟨w.heap.size, 3, none⟩) (Nat.le_refl _) (.slice s c.outs.length cc)
              revert hZ hR hB
              generalize ((((wr.setCell ⟨w.heap.size, 0, none⟩ (.int .i64 c.inp)).setCell ⟨w.heap.size, 1, none⟩ (.slice sN c.next.length cN)).setCell ⟨w.heap.size, 2, none⟩ (.slice sG c.gates.length cG)).setCell ⟨w.heap.size, 3, none⟩ (.slice s c.outs.length cc)) = WZ
              intro hZ hR hB
              have cr := (blk_all hZ).1
              exact bodyPost_ret (v := .agg #[.int .i64 c.inp, .slice sN c.next.length cN, .slice sG c.gates.length cG, .slice s c.outs.length cc]) (by simp [results, Try.results64, go_sem, cr]) rfl ⟨_, _, _, rfl, hR, hB⟩

end Go.Proofs.Ytjecchljhdfjdaa
