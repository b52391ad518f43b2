import Derived.Test.YtjecchljhdfjdaaZZ1OA
import Derived.Test.YtjecchljhdfjdaaZZ1L4
import Derived.Test.YtjecchljhdfjdaaZZ1Q1
import Derived.Test.YtjecchljhdfjdaaZZ1B5
import Derived.Test.YtjecchljhdfjdaaZZ1Q2
import Derived.Deep.QuietTactic
import Derived.BigQuiet
import Derived.Laws.OwnMore
import Derived.Laws.CopyOwn
namespace Go.Proofs.Ytjecchljhdfjdaa
set_option linter.unusedVariables false
set_option linter.unusedSimpArgs false
open Go.RowKit

/-! Part of the proof of one law. -/

/-! The leaves of a conjunction: the reference's. -/

def Cir.usesS (c : Cir) : List Int := (c.outs ++ c.next) ++ glits c.gates

theorem usesS_eq (c : Cir) (x : Int) : cntL c.usesS x = cntL c.usesI x := by
  unfold Cir.usesS Cir.usesI
  simp only [cntL_append]; omega

theorem cntL_snoc {L : List Int} {k : Nat} {y : Int} (h : L[k]? = some y) (x : Int) : cntL (L.take (k + 1)) x = cntL (L.take k) x + if y / 2 = x then 1 else 0 := by
  rw [List.take_add_one, h]
  show cntL (L.take k ++ [y]) x = _
  rw [cntL_append, cntL_one]

set_option maxHeartbeats 1600000 in
theorem l19Uses_any (v : Value) (c : Cir) (x : Int) (w : World) (h : CirV w v c) (hv : c.valid) :
    Calls Try.prog 82 #[v, .int .i64 x] w fun e w' => ∃ q : Nat, e = .returned (.int .i64 (q : Int)) ∧ q = cntL c.usesI x ∧ Below w.heap.size w w' := by
  obtain ⟨sn, cn, sg, cg, so, co, rfl, h1, h2, h3, hl1, hl2, hl3⟩ := h
  obtain ⟨q1, q2, q3, q4, q5⟩ := id hv.lim
  have hL : Below w.heap.size w (w.alloc (.cells #[.int .i64 c.inp, .slice sn c.next.length cn, .slice sg c.gates.length cg, .slice so c.outs.length co] 28)) := by go_grown
  have hN := blk_new w (.cells #[.int .i64 c.inp, .slice sn c.next.length cn, .slice sg c.gates.length cg, .slice so c.outs.length co] 28)
  have hz : (w.alloc (.cells #[.int .i64 c.inp, .slice sn c.next.length cn, .slice sg c.gates.length cg, .slice so c.outs.length co] 28)).heap.size = w.heap.size + 1 := by simp
  have H := Lib.hid (And.intro h1 (And.intro h2 (And.intro h3 hv)))
  clear h1 h2 h3 hv
  go_enter Try.func82, Try.ntmps82
  go_wp2_with fail
  revert hL hN hz
  generalize (w.alloc (.cells #[.int .i64 c.inp, .slice sn c.next.length cn, .slice sg c.gates.length cg, .slice so c.outs.length co] 28)) = WB
  intro hL hN hz
  have HW := Lib.hid (And.intro hL (And.intro hN hz))
  clear hL hN hz
  refine wp_region_T (fun w' => w'.cell? ⟨w.heap.size, 3, none⟩ = some (.slice so c.outs.length co) ∧ w'.cell? ⟨w.heap.size, 1, none⟩ = some (.slice sn c.next.length cn)) (.q 1 (.q 2 (.q 4 (.q 5 (.e 0 (.e 3 (.e 6 (.q 7 .nil)))))))) (by kernel_rfl) (by kernel_rfl) (by kernel_rfl) ⟨blk_cell HW.out.2.1, blk_cell HW.out.2.1⟩ ?_
  repeat (first | (refine ordt_s (o := ?_) ?_ ?_ ?_; rotate_left 1; (focus ((simp only [zD, zE, zF]) <;> rfl)); (focus rfl); simp only [Act.put, zA, zB, zC]) | (refine ordt_q (o := ?_) (v := ?_) ?_ ?_ ?_ ?_; rotate_left 2; (focus ((simp only [zD, zE, zF]) <;> rfl)); (focus rfl); (focus (intro w' hS; (try dsimp only at hS); go_split_ands; go_simp; (try (with_reducible rfl)))); simp only [Act.put, zA, zB, zC]))
  refine ordt_e ?_
  (refine op_e (o := ?_) ?_ ?_ (fun K hK => ?_); rotate_left 1; (focus ((simp only [zD, zE, zF]) <;> rfl)); (focus rfl); go_simp)
  have hb1 : Below (w.heap.size + 1) WB (WB.alloc (.cells #[] 3)).drew := ((Below.refl _ _).alloc (by have := HW.out.2.2; omega) _).drew
  have ho1 : (WB.alloc (.cells #[] 3)).drew.ownsRow (w.heap.size + 1) 3 1 (.slice (some ⟨WB.heap.size, 0, none⟩) 0 0) 0 [] := own_of_blk (n := 0) (cur := #[]) (blk_new WB _) (by have := HW.out.2.2; omega) (by simp) (by unfold maxLen; omega)
  revert hb1 ho1
  generalize (WB.alloc (.cells #[] 3)).drew = W1
  intro hb1 ho1
  have hbw := HW.out.1.trans (hb1.mono (by omega))
  refine hK.out _ _ ⟨blk_cell (blk_below hb1 (by omega) HW.out.2.1), blk_cell (blk_below hb1 (by omega) HW.out.2.1)⟩ ?_
  clear hK K
  have H1 := Lib.hid (And.intro hb1 (And.intro ho1 hbw))
  clear hb1 ho1 hbw
  (try simp only [Act.put, zA, zB, zC])
  refine ordt_e ?_
  (refine op_e (o := ?_) ?_ ?_ (fun K hK => ?_); rotate_left 1; (focus ((simp only [zD, zE, zF]) <;> rfl)); (focus rfl))
  refine wp_app (.tmp 9) (.tmp 11) rfl elem_int H1.out.2.1 rfl rfl (by simp) (H.out.2.2.1.mono H1.out.2.2) (ints_one _) c.outs.length (by simp) (ints c.outs) (by simp) (by unfold maxLen; omega) (by omega) (by have := H1.out.1.size; have := HW.out.2.2; omega) ?_
  intro s2 c2 W2 ho2 hb2 _ _
  have hb2' := H1.out.1.trans hb2
  have hbw2 := H1.out.2.2.trans (hb2.mono (by omega))
  refine hK.out _ _ ⟨blk_cell (blk_below hb2' (by omega) HW.out.2.1), blk_cell (blk_below hb2' (by omega) HW.out.2.1)⟩ ?_
  clear hK K
  have H2 := Lib.hid (And.intro hb2' (And.intro ho2 hbw2))
  clear hb2 hb2' ho2 hbw2
  (try simp only [Act.put, zA, zB, zC])
  refine ordt_e ?_
  (refine op_e (o := ?_) ?_ ?_ (fun K hK => ?_); rotate_left 1; (focus ((simp only [zD, zE, zF]) <;> rfl)); (focus rfl))
  refine wp_app (.tmp 12) (.tmp 14) rfl elem_int H2.out.2.1 rfl rfl (by simp) (H.out.1.mono H2.out.2.2) (ints_one _) (c.outs.length + c.next.length) (by simp) (ints (c.outs ++ c.next)) (by rw [ints_append]) (by unfold maxLen; omega) (by omega) (by have := H2.out.1.size; have := HW.out.2.2; omega) ?_
  intro s3 c3 W3 ho3 hb3 _ _
  have hb3' := H2.out.1.trans hb3
  have hbw3 := H2.out.2.2.trans (hb3.mono (by omega))
  refine hK.out _ _ ⟨blk_cell (blk_below hb3' (by omega) HW.out.2.1), blk_cell (blk_below hb3' (by omega) HW.out.2.1)⟩ ?_
  clear hK K
  have H3 := Lib.hid (And.intro hb3' (And.intro ho3 hbw3))
  clear hb3 hb3' ho3 hbw3
  (try simp only [Act.put, zA, zB, zC])
  repeat (first | (refine ordt_s (o := ?_) ?_ ?_ ?_; rotate_left 1; (focus ((simp only [zD, zE, zF]) <;> rfl)); (focus rfl); simp only [Act.put, zA, zB, zC]) | (refine ordt_q (o := ?_) (v := ?_) ?_ ?_ ?_ ?_; rotate_left 2; (focus ((simp only [zD, zE, zF]) <;> rfl)); (focus rfl); (focus (intro w' hS; (try dsimp only at hS); go_split_ands; go_simp; (try (with_reducible rfl)))); simp only [Act.put, zA, zB, zC]))
  refine ordt_nil ?_
  go_wp2_with fail
  go_loopw [7, 6] (fun i v6 wr => ∃ (k : Nat) (s : Option Addr) (cc : Nat), k ≤ c.gates.length ∧ i = .int .i64 k ∧ v6 = .slice s (c.outs.length + c.next.length + 2 * k) cc ∧ wr.ownsRow (w.heap.size + 1) 3 1 v6 (c.outs.length + c.next.length + 2 * k) (ints ((c.outs ++ c.next) ++ glits (c.gates.take k))) ∧ Below (w.heap.size + 1) WB wr) (fun i _ _ => c.gates.length - (intOf i).toNat)
  case atStart => exact ⟨0, s3, c3, Nat.zero_le _, rfl, rfl, by simpa [glits] using H3.out.2.1, H3.out.1⟩
  case round =>
    obtain ⟨k, s, cc, hk, rfl, rfl, ho, hb⟩ := hrel
    have hbw := HW.out.1.trans (hb.mono (by omega))
    have c2' : wr.cell? ⟨w.heap.size, 2, none⟩ = some (.slice sg c.gates.length cg) := blk_cell (blk_below hb (by omega) HW.out.2.1)
    have hwz := HW.out.2.2
    by_cases hlt : k < c.gates.length
    · obtain ⟨g, hg⟩ := get_of_lt hlt
      obtain ⟨gb, off, rfl, hgb, z1, z2⟩ := H.out.2.1.gate hbw hg
      have hsn := glits_snoc hg
      have HR := Lib.hid (And.intro ho (And.intro hb (And.intro hbw hsn)))
      clear ho hb hbw hg hsn
      have i0 : (0 : Int) ≤ (k : Int) := by omega
      have i1 : (k : Int) < (c.gates.length : Int) := by omega
      go_wp2_with fail
      refine wp_region_T (fun w' => w'.cell? ⟨w.heap.size, 2, none⟩ = some (.slice (some ⟨gb, off, none⟩) c.gates.length cg) ∧ w'.cell? ⟨gb, off + k * 2, none⟩ = some (.int .i64 g.a) ∧ w'.cell? ⟨gb, off + k * 2 + 1, none⟩ = some (.int .i64 g.b)) (.q 0 (.q 1 (.q 2 (.q 3 (.q 4 (.q 5 (.q 6 (.q 7 (.q 8 (.q 9 (.q 10 (.q 11 (.q 12 (.e 13 (.e 14 (.q 15 .nil)))))))))))))))) (by kernel_rfl) (by kernel_rfl) (by kernel_rfl) ⟨c2', z1, z2⟩ ?_
      repeat (first | (refine ordt_s (o := ?_) ?_ ?_ ?_; rotate_left 1; (focus ((simp only [zD, zE, zF]) <;> rfl)); (focus rfl); simp only [Act.put, zA, zB, zC]) | (refine ordt_q (o := ?_) (v := ?_) ?_ ?_ ?_ ?_; rotate_left 2; (focus ((simp only [zD, zE, zF]) <;> rfl)); (focus rfl); (focus (intro w' hS; (try dsimp only at hS); go_split_ands; go_simp; (try (with_reducible rfl)))); simp only [Act.put, zA, zB, zC]))
      refine ordt_e ?_
      (refine op_e (o := ?_) ?_ ?_ (fun K hK => ?_); rotate_left 1; (focus ((simp only [zD, zE, zF]) <;> rfl)); (focus rfl); go_simp)
      have hb1 : Below wr.heap.size wr (wr.alloc (.cells #[.int .i64 g.a, .int .i64 g.b] 3)).drew := ((Below.refl _ _).alloc (Nat.le_refl _) _).drew
      have hn1 : (wr.alloc (.cells #[.int .i64 g.a, .int .i64 g.b] 3)).drew.heap[wr.heap.size]? = some (.cells #[.int .i64 g.a, .int .i64 g.b] 3 (0, 0)) := blk_new wr _
      revert hb1 hn1
      generalize (wr.alloc (.cells #[.int .i64 g.a, .int .i64 g.b] 3)).drew = W4
      intro hb1 hn1
      have hsz := HR.out.2.1.size
      have hc4 := (hb1.cell (p := ⟨w.heap.size, 2, none⟩) (by simp; omega)).trans c2'
      have hz4 := (hb1.cell (p := ⟨gb, off + k * 2, none⟩) (by have := HR.out.2.2.1.size; simp; omega)).trans z1
      have hz5 := (hb1.cell (p := ⟨gb, off + k * 2 + 1, none⟩) (by have := HR.out.2.2.1.size; simp; omega)).trans z2
      refine hK.out _ _ ⟨hc4, hz4, hz5⟩ ?_
      clear hK K hc4 hz4 hz5
      have H4 := Lib.hid (And.intro hb1 (And.intro (Sl.blk hn1) (own_below HR.out.1 hb1)))
      clear hb1 hn1
      (try simp only [Act.put, zA, zB, zC])
      refine ordt_e ?_
      (refine op_e (o := ?_) ?_ ?_ (fun K hK => ?_); rotate_left 1; (focus ((simp only [zD, zE, zF]) <;> rfl)); (focus rfl))
      refine wp_app (.tmp 23) (.tmp 36) rfl elem_int H4.out.2.2 rfl rfl rfl H4.out.2.1 (by simp [Value.oneCell']) (c.outs.length + c.next.length + 2 * (k + 1)) (by omega) (ints ((c.outs ++ c.next) ++ glits (c.gates.take (k + 1)))) (by rw [HR.out.2.2.2]; simp [ints]) (by unfold maxLen; omega) (by omega) (by have := H4.out.1.size; omega) ?_
      intro s5 c5 W5 ho5 hb5 _ _
      have hb5' : Below (w.heap.size + 1) WB W5 := (HR.out.2.1.trans (H4.out.1.mono (by omega))).trans hb5
      have hbw5 := HW.out.1.trans (hb5'.mono (by omega))
      refine hK.out _ _ ⟨blk_cell (blk_below hb5' (by omega) HW.out.2.1), ?_, ?_⟩ ?_
      · exact (hb5.cell (p := ⟨gb, off + k * 2, none⟩) (by simp; omega)).trans ((H4.out.1.cell (p := ⟨gb, off + k * 2, none⟩) (by simp; omega)).trans z1)
      · exact (hb5.cell (p := ⟨gb, off + k * 2 + 1, none⟩) (by simp; omega)).trans ((H4.out.1.cell (p := ⟨gb, off + k * 2 + 1, none⟩) (by simp; omega)).trans z2)
      clear hK K
      have H5 := Lib.hid (And.intro ho5 hb5')
      clear ho5 hb5 hb5' hbw5
      (try simp only [Act.put, zA, zB, zC])
      repeat (first | (refine ordt_s (o := ?_) ?_ ?_ ?_; rotate_left 1; (focus ((simp only [zD, zE, zF]) <;> rfl)); (focus rfl); simp only [Act.put, zA, zB, zC]) | (refine ordt_q (o := ?_) (v := ?_) ?_ ?_ ?_ ?_; rotate_left 2; (focus ((simp only [zD, zE, zF]) <;> rfl)); (focus rfl); (focus (intro w' hS; (try dsimp only at hS); go_split_ands; go_simp; (try (with_reducible rfl)))); simp only [Act.put, zA, zB, zC]))
      refine ordt_nil ?_
      go_wp2_with fail
      go_roundw
      case rel =>
        exact ⟨k + 1, by omega, by go_num, rfl, by simpa only [List.append_assoc] using H5.out.1, H5.out.2⟩
      case measure => simp [intOf]; omega
    · obtain rfl : k = c.gates.length := by omega
      rw [List.take_length] at ho
      have hlen : c.usesS.length = c.outs.length + c.next.length + 2 * c.gates.length := by unfold Cir.usesS; simp [glits_length]; try omega
      have hus : c.usesS = (c.outs ++ c.next) ++ glits c.gates := rfl
      rw [← hus, ← hlen] at ho
      rw [← hlen]
      have hul : c.usesS.length ≤ 100 := by omega
      have HR := Lib.hid (And.intro (own_sl ho) (And.intro hbw (And.intro hlen hus)))
      clear ho hb hbw hlen hus
      go_wp2_with fail
      clear c2'
      go_loop [8, 5] (fun i v5 => ∃ m : Nat, m ≤ c.usesS.length ∧ i = .int .i64 m ∧ v5 = .int .i64 (cntL (c.usesS.take m) x : Int)) (fun i _ => c.usesS.length - (intOf i).toNat)
      case atStart => exact ⟨0, Nat.zero_le _, rfl, by simp [cntL]⟩
      case round =>
        obtain ⟨m, hm, rfl, rfl⟩ := hrel
        have hcl := cntL_le (c.usesS.take m) x
        rw [List.length_take] at hcl
        by_cases hlt2 : m < c.usesS.length
        · obtain ⟨y, hy⟩ := get_of_lt hlt2
          obtain ⟨yb, yo, rfl, hyb, hyc⟩ := HR.out.1.int (Below.refl _ _) hy
          have hsn := cntL_snoc hy x
          have hyv : 0 ≤ y ∧ y ≤ 1000 := by
            have hval := H.out.2.2.2
            obtain ⟨f1, f2, f3, f4⟩ := valid_first hval
            have hmem := List.mem_of_getElem? hy
            rw [HR.out.2.2.2] at hmem
            rcases List.mem_append.1 hmem with h1 | h1
            · have h2 := (List.mem_append.1 h1).elim (hval.outs y) (hval.next y)
              unfold litP at h2; omega
            · unfold glits at h1
              obtain ⟨g, hg, hy2⟩ := List.mem_flatMap.1 h1
              obtain ⟨j, hj, rfl⟩ := List.getElem_of_mem hg
              obtain ⟨⟨a1, a2⟩, b1, b2⟩ := valid_gate hval (List.getElem?_eq_getElem hj)
              simp at hy2
              rcases hy2 with rfl | rfl <;> omega
          obtain ⟨y0, y1⟩ := hyv
          have HY := Lib.hid (And.intro hy hsn)
          clear hy hsn
          by_cases hyx : y / 2 = x
          · have hb1 : ((y / 2 : Int) == x) = true := by simpa using hyx
            have HYX := Lib.hid hyx
            clear hyx
            go_wp2
            go_round
            case rel => exact ⟨m + 1, by omega, by go_num, by rw [HY.out.2, if_pos HYX.out]; go_num⟩
            case measure => simp [intOf]; omega
          · have hb1 : ((y / 2 : Int) == x) = false := beq_eq_false_iff_ne.2 hyx
            have HYX := Lib.hid hyx
            clear hyx
            go_wp2
            go_round
            case rel => exact ⟨m + 1, by omega, by go_num, by rw [HY.out.2, if_neg HYX.out]; simp⟩
            case measure => simp [intOf]; omega
        · obtain rfl : m = c.usesS.length := by omega
          go_wp2
          go_ret
          exact ⟨cntL c.usesS x, rfl, usesS_eq c x, HR.out.2.1⟩

theorem own_tyb {w : World} {base : Nat} {e : TypeId} {size n : Nat} {v : Value} {xs : List Value} (h : w.ownsRow base e size v n xs) {b : Nat} {arr : Array Value} {t : TypeId} {fz : Nat × Nat} (hb : w.heap[b]? = some (.cells arr t fz)) (he : e ≠ t) : v.ownBlock ≠ some b := by
  intro hk
  rcases h.2 with ⟨rfl, _⟩ | ⟨g, cap, cur, rfl, _, hg, _⟩
  · cases hk
  · simp only [Value.ownBlock, Option.some.injEq] at hk
    subst hk
    rw [hg] at hb
    simp only [Option.some.injEq, Obj.cells.injEq] at hb
    exact he hb.2.1

def u8s (xs : List Int) : List Value := xs.map (Value.int .u8)

@[simp] theorem u8s_length (xs : List Int) : (u8s xs).length = xs.length := by simp [u8s]

/-- Only block B may have been written. -/
def Upd (B : Nat) (w w' : World) : Prop := w.grownBy w' (some B)

theorem Upd.refl (B : Nat) (w : World) : Upd B w w := World.grownBy.refl w _

theorem Upd.trans {B : Nat} {a b c : World} (h : Upd B a b) (k : Upd B b c) : Upd B a c := World.grownBy.trans h k

theorem Upd.set (B o : Nat) (w : World) (v : Value) : Upd B w (w.setCell ⟨B, o, none⟩ v) :=
  ⟨rfl, rfl, rfl, by rw [size_set]; exact Nat.le_refl _, fun k _ hne => Below.heap_setCell _ _ _ _ (by intro e; apply hne; simp [e])⟩

theorem Upd.n {B : Nat} {w w' : World} (h : Upd B w w') (n : Nat) : Upd B w (w'.drewN n) := ⟨h.os, h.tape, h.output, h.size, h.block⟩

theorem Upd.below {B : Nat} {w w' : World} (h : Upd B w w') {b : Nat} (hB : b ≤ B) (hs : b ≤ w.heap.size) : Below b w w' :=
  ⟨h.os, h.tape, h.output, h.size, fun k hk => h.block k (by omega) (by simp; omega)⟩

theorem Upd.of_below {B : Nat} {w w' : World} (h : Below w.heap.size w w') : Upd B w w' := ⟨h.os, h.tape, h.output, h.size, fun k hk _ => h.block k hk⟩

theorem Sl.u8 {w wr : World} {s : Option Addr} {xs : List Int} {B : Nat} (h : Sl w s (u8s xs)) (hB : ∀ a, s = some a → xs ≠ [] → a.block < B) (hbl : Below B w wr) {k : Nat} {x : Int} (hx : xs[k]? = some x) :
    ∃ b off, s = some ⟨b, off, none⟩ ∧ wr.cell? ⟨b, off + k, none⟩ = some (.int .u8 x) := by
  have hlt : k < xs.length := (List.getElem?_eq_some_iff.1 hx).1
  obtain ⟨b, off, rfl, hbw, hcs⟩ := h.at (k := k) (by simpa using hlt)
  have := hB _ rfl (by intro e; subst e; simp at hlt)
  exact ⟨b, off, rfl, by rw [hbl.cell (by exact this)]; exact hcs _ _ (by simp [u8s, hx])⟩

theorem Upd.grown {B b : Nat} {w w' : World} (hb : Below b w w') (hB : ∀ k, b ≤ k → k < w.heap.size → k = B ∨ w'.heap[k]? = w.heap[k]?) : Upd B w w' :=
  ⟨hb.os, hb.tape, hb.output, hb.size, fun k hk hne => by
    by_cases h : k < b
    · exact hb.block k h
    · rcases hB k (by omega) hk with rfl | h2
      · exact absurd rfl hne
      · exact h2⟩

/-- Below b nothing has turned but block B. -/
structure Kp (B b : Nat) (w w' : World) : Prop where
  os : w'.os = w.os
  tape : w'.tape = w.tape
  output : w'.output = w.output
  size : w.heap.size ≤ w'.heap.size
  block : ∀ k, k < b → k ≠ B → w'.heap[k]? = w.heap[k]?

theorem Kp.refl (B b : Nat) (w : World) : Kp B b w w := ⟨rfl, rfl, rfl, Nat.le_refl _, fun _ _ _ => rfl⟩

theorem Kp.trans {B b : Nat} {x y z : World} (h : Kp B b x y) (k : Kp B b y z) : Kp B b x z :=
  ⟨k.os.trans h.os, k.tape.trans h.tape, k.output.trans h.output, Nat.le_trans h.size k.size, fun i hi hn => (k.block i hi hn).trans (h.block i hi hn)⟩

theorem Kp.mono {B b b' : Nat} {w w' : World} (h : Kp B b w w') (hb : b' ≤ b) : Kp B b' w w' := ⟨h.os, h.tape, h.output, h.size, fun k hk hn => h.block k (by omega) hn⟩

theorem Kp.of_below {B b : Nat} {w w' : World} (h : Below b w w') : Kp B b w w' := ⟨h.os, h.tape, h.output, h.size, fun k hk _ => h.block k hk⟩

theorem Kp.of_upd {B b : Nat} {w w' : World} (h : Upd B w w') (hb : b ≤ w.heap.size) : Kp B b w w' := ⟨h.os, h.tape, h.output, h.size, fun k hk hn => h.block k (by omega) (by simp; exact hn)⟩

theorem Kp.below {B b b' : Nat} {w w' : World} (h : Kp B b w w') (h1 : b' ≤ B) (h2 : b' ≤ b) : Below b' w w' := ⟨h.os, h.tape, h.output, h.size, fun k hk => h.block k (by omega) (by omega)⟩

theorem Kp.alloc {B b : Nat} {w w' : World} (h : Kp B b w w') (hb : b ≤ w.heap.size) (o : Obj) : Kp B b w (w'.alloc o) :=
  h.trans (Kp.of_below ((Below.refl _ _).alloc (Nat.le_trans hb h.size) o))

theorem elem_gate : ElemOf Try.prog 25 24 (.agg #[.int .i64 0, .int .i64 0]) 2 16 :=
  ⟨by kernel_rfl, info_parts (by kernel_rfl), rfl, by omega⟩

theorem gcells_append (xs ys : List Gt) : gcells xs ++ gcells ys = gcells (xs ++ ys) := by
  induction xs with
  | nil => rfl
  | cons x xs ih => show .int .i64 x.a :: .int .i64 x.b :: (gcells xs ++ gcells ys) = _; rw [ih]; rfl

structure OutC (w : World) (base B : Nat) (inp : Int) (xn : List Int) (xg : List Gt) (xo : List Int) (vn vg vo : Value) : Prop where
  blk : w.heap[B]? = some (.cells #[.int .i64 inp, vn, vg, vo] 28 (0, 0))
  n : w.ownsRow base 3 1 vn xn.length (ints xn)
  g : w.ownsRow base 24 2 vg xg.length (gcells xg)
  o : w.ownsRow base 3 1 vo xo.length (ints xo)
  ne : ∀ k, vn.ownBlock = some k → vo.ownBlock ≠ some k

theorem OutC.below {w w' : World} {base B : Nat} {inp : Int} {xn : List Int} {xg : List Gt} {xo : List Int} {vn vg vo : Value} (h : OutC w base B inp xn xg xo vn vg vo) (hb : Below w.heap.size w w') : OutC w' base B inp xn xg xo vn vg vo :=
  ⟨blk_below hb (blk_lt h.blk) h.blk, own_below h.n hb, own_below h.g hb, own_below h.o hb, h.ne⟩

theorem OutC.pushN {w w2 : World} {base B : Nat} {inp : Int} {xn xn' : List Int} {xg : List Gt} {xo : List Int} {vn vn' vg vo : Value} (h : OutC w base B inp xn xg xo vn vg vo)
    (hg : w.grownBy w2 vn.ownBlock) (ho : w2.ownsRow base 3 1 vn' xn'.length (ints xn')) (hb : vn'.ownBlock = vn.ownBlock ∨ vn'.ownBlock = some w.heap.size) : w2.heap[B]? = some (.cells #[.int .i64 inp, vn, vg, vo] 28 (0, 0)) ∧ OutC (w2.setCell ⟨B, 1, none⟩ vn') base B inp xn' xg xo vn' vg vo := by
  have hB : w2.heap[B]? = some (.cells #[.int .i64 inp, vn, vg, vo] 28 (0, 0)) := by
    rw [hg.block B (blk_lt h.blk) (fun e => own_tyb h.n h.blk (by decide) e.symm)]; exact h.blk
  have hc := Chg.of_grown hg
  have lt : ∀ k, vo.ownBlock = some k → k < w.heap.size := fun k hk => (own_blk h.o hk).2
  refine ⟨hB, by simpa using blk_set (o := 1) (v := vn') hB, own_set_ne ho (own_tyb ho hB (by decide)) _, own_set_ne (hc.own h.g (fun k hk hs => own_ty h.n h.g (by decide) hs hk)) (own_tyb h.g h.blk (by decide)) _, own_set_ne (hc.own h.o (fun k hk hs => h.ne k hs hk)) (own_tyb h.o h.blk (by decide)) _, fun k hk => ?_⟩
  rcases hb with e | e
  · rw [e] at hk; exact h.ne k hk
  · rw [e] at hk; cases hk; intro hk2; have := lt _ hk2; omega

theorem OutC.pushO {w w2 : World} {base B : Nat} {inp : Int} {xn : List Int} {xg : List Gt} {xo xo' : List Int} {vn vg vo vo' : Value} (h : OutC w base B inp xn xg xo vn vg vo)
    (hg : w.grownBy w2 vo.ownBlock) (ho : w2.ownsRow base 3 1 vo' xo'.length (ints xo')) (hb : vo'.ownBlock = vo.ownBlock ∨ vo'.ownBlock = some w.heap.size) : w2.heap[B]? = some (.cells #[.int .i64 inp, vn, vg, vo] 28 (0, 0)) ∧ OutC (w2.setCell ⟨B, 3, none⟩ vo') base B inp xn xg xo' vn vg vo' := by
  have hB : w2.heap[B]? = some (.cells #[.int .i64 inp, vn, vg, vo] 28 (0, 0)) := by
    rw [hg.block B (blk_lt h.blk) (fun e => own_tyb h.o h.blk (by decide) e.symm)]; exact h.blk
  have hc := Chg.of_grown hg
  have lt : ∀ k, vn.ownBlock = some k → k < w.heap.size := fun k hk => (own_blk h.n hk).2
  refine ⟨hB, by simpa using blk_set (o := 3) (v := vo') hB, own_set_ne (hc.own h.n (fun k hk hs => h.ne k hk hs)) (own_tyb h.n h.blk (by decide)) _, own_set_ne (hc.own h.g (fun k hk hs => own_ty h.o h.g (by decide) hs hk)) (own_tyb h.g h.blk (by decide)) _, own_set_ne ho (own_tyb ho hB (by decide)) _, fun k hk hk2 => ?_⟩
  rcases hb with e | e
  · rw [e] at hk2; exact h.ne k hk hk2
  · rw [e] at hk2; cases hk2; have := lt _ hk; omega

theorem OutC.pushG {w w2 : World} {base B : Nat} {inp : Int} {xn : List Int} {xg xg' : List Gt} {xo : List Int} {vn vg vg' vo : Value} (h : OutC w base B inp xn xg xo vn vg vo)
    (hg : w.grownBy w2 vg.ownBlock) (ho : w2.ownsRow base 24 2 vg' xg'.length (gcells xg')) : w2.heap[B]? = some (.cells #[.int .i64 inp, vn, vg, vo] 28 (0, 0)) ∧ OutC (w2.setCell ⟨B, 2, none⟩ vg') base B inp xn xg' xo vn vg' vo := by
  have hB : w2.heap[B]? = some (.cells #[.int .i64 inp, vn, vg, vo] 28 (0, 0)) := by
    rw [hg.block B (blk_lt h.blk) (fun e => own_tyb h.g h.blk (by decide) e.symm)]; exact h.blk
  have hc := Chg.of_grown hg
  exact ⟨hB, by simpa using blk_set (o := 2) (v := vg') hB, own_set_ne (hc.own h.n (fun k hk hs => own_ty h.n h.g (by decide) hk hs)) (own_tyb h.n h.blk (by decide)) _, own_set_ne ho (own_tyb ho hB (by decide)) _, own_set_ne (hc.own h.o (fun k hk hs => own_ty h.o h.g (by decide) hk hs)) (own_tyb h.o h.blk (by decide)) _, h.ne⟩

def mapG (f : Int → Int) (gs : List Gt) : List Gt := gs.map fun g => ⟨f g.a, f g.b⟩

def Cir.mapC (f : Int → Int) (c : Cir) : Cir := ⟨c.inp, c.next.map f, mapG f c.gates, c.outs.map f⟩

theorem mapG_snoc {f : Int → Int} {gs : List Gt} {k : Nat} {g : Gt} (h : gs[k]? = some g) : mapG f (gs.take (k + 1)) = mapG f (gs.take k) ++ [⟨f g.a, f g.b⟩] := by
  rw [List.take_add_one, h]; simp [mapG]

theorem map_snoc {f : Int → Int} {xs : List Int} {k : Nat} {x : Int} (h : xs[k]? = some x) : (xs.take (k + 1)).map f = (xs.take k).map f ++ [f x] := by
  rw [List.take_add_one, h]; simp

theorem own_sets4 {w : World} {base r : Nat} {e : TypeId} {size : Nat} {v : Value} {n : Nat} {xs : List Value} (h : w.ownsRow (base + 1) e size v n xs) (hne : v.ownBlock ≠ some r) {a b c d : Value} : ((((w.setCell ⟨r, 0, none⟩ a).setCell ⟨r, 1, none⟩ b).setCell ⟨r, 2, none⟩ c).setCell ⟨r, 3, none⟩ d).ownsRow base e size v n xs :=
  own_set_ne (own_set_ne (own_set_ne (own_set_ne (own_base h (Nat.le_succ _)) hne _) hne _) hne _) hne _

def litB (vs : List Bool) (l : Int) : Bool := vs.getD (l / 2).toNat false != decide (l % 2 = 1)

def stepV (st : Int) (val : Bool) (vs : List Bool) (g : Gt) : List Bool := vs ++ [if (vs.length : Int) = st then val else litB vs g.a && litB vs g.b]

def valsV (st : Int) (val : Bool) (b0 : List Bool) (gs : List Gt) : List Bool := gs.foldl (stepV st val) b0

def bools (xs : List Bool) : List Value := xs.map Value.bool

@[simp] theorem bools_length (xs : List Bool) : (bools xs).length = xs.length := by simp [bools]

theorem bools_get {xs : List Bool} {k : Nat} {x : Bool} (h : xs[k]? = some x) : (bools xs)[k]? = some (.bool x) := by simp [bools, h]

theorem Sl.bool {w wr : World} {s : Option Addr} {xs : List Bool} (h : Sl w s (bools xs)) (hbl : Below w.heap.size w wr) {k : Nat} {x : Bool} (hx : xs[k]? = some x) :
    ∃ b off, s = some ⟨b, off, none⟩ ∧ b < w.heap.size ∧ wr.cell? ⟨b, off + k, none⟩ = some (.bool x) := by
  have hlt : k < xs.length := (List.getElem?_eq_some_iff.1 hx).1
  obtain ⟨b, off, rfl, hbw, hcs⟩ := h.at (k := k) (by simpa using hlt)
  exact ⟨b, off, rfl, hbw, by rw [hbl.cell (by exact hbw)]; exact hcs _ _ (bools_get hx)⟩

theorem mkBools (w : World) (n : Nat) (h : n ≤ 1048576) : (Instr.makeSlice 55 (.int .i64 (n : Int)) (.int .i64 (n : Int))).run Try.prog w = .ok (.slice (some ⟨w.heap.size, 0, none⟩) n n) (w.alloc (.cells (bools (List.replicate n false)).toArray 4)) := by
  obtain ⟨i, hi, h1, h2, h3⟩ := info_parts (P := Try.prog) (e := 4) (z := .bool false) (size := 1) (bytes := 1) (by kernel_rfl)
  have := run_make (P := Try.prog) w 55 4 i (.bool false) (by kernel_rfl) hi h1 .i64 .i64 n n (by omega) (by omega) (by rw [h3]; omega) (by omega)
  rw [this, h2]
  have e : madeCells #[Value.bool false] n = (bools (List.replicate n false)).toArray := by
    apply Array.ext'
    rw [toList_madeCells_one]; simp [bools]
  simp [Value.cells, e]

theorem bools_set (xs : List Bool) (p : Nat) (v : Bool) : (bools xs).toArray.setIfInBounds p (.bool v) = (bools (xs.set p v)).toArray := by
  apply Array.ext'
  simp [bools, List.map_set]

theorem bools_cell {w : World} {g p : Nat} {xs : List Bool} {t : TypeId} {x : Bool} (h : w.heap[g]? = some (.cells (bools xs).toArray t (0, 0))) (hx : xs[p]? = some x) : w.cell? ⟨g, p, none⟩ = some (.bool x) := by
  rw [blk_cell h]; simpa using bools_get hx

theorem bools_blk_set {w : World} {g : Nat} {xs : List Bool} {t : TypeId} (h : w.heap[g]? = some (.cells (bools xs).toArray t (0, 0))) (p : Nat) (v : Bool) : (w.setCell ⟨g, p, none⟩ (.bool v)).heap[g]? = some (.cells (bools (xs.set p v)).toArray t (0, 0)) := by
  rw [← bools_set]; exact blk_set h

theorem Sl.toB {w : World} {g : Nat} {xs : List Bool} {t : TypeId} {fz : Nat × Nat} (h : w.heap[g]? = some (.cells (bools xs).toArray t fz)) : Sl w (some ⟨g, 0, none⟩) (bools xs) := by
  have := Sl.blk h; simpa using this

/-- The values of all variables, none stuck. -/
def vN (b : List Bool) (gs : List Gt) : List Bool := valsV (-1) false b gs

/-- The gates after a conjunction: as before, or one more, whose literal is the result. -/
theorem andK_ext (F : Int) (gs : List Gt) (x y : Int) : (andK F gs x y).1 = gs ∨ ∃ g, (andK F gs x y).1 = gs ++ [g] ∧ (andK F gs x y).2 = 2 * (F + gs.length) := by
  by_cases h0 : x = 0 ∨ (x = y - 1 ∧ x % 2 = 0)
  · rw [andK_zero h0]; exact .inl rfl
  · by_cases h1 : x = 1 ∨ x = y
    · rw [andK_same h0 h1]; exact .inl rfl
    · cases hf : fndG gs ⟨x, y⟩ 0 with
      | some i => rw [andK_old h0 h1 hf]; exact .inl rfl
      | none => rw [andK_new h0 h1 hf]; exact .inr ⟨_, rfl, rfl⟩

theorem andL_ext (F : Int) (gs : List Gt) (x y : Int) : (andL F gs x y).1 = gs ∨ ∃ g, (andL F gs x y).1 = gs ++ [g] ∧ (andL F gs x y).2 = 2 * (F + gs.length) := by
  unfold andL
  split <;> exact andK_ext _ _ _ _

theorem own_sets4' {w : World} {base base' r : Nat} {e : TypeId} {size : Nat} {v : Value} {n : Nat} {xs : List Value} (h : w.ownsRow base' e size v n xs) (hr : r < base') (hb : base ≤ base') {a b c d : Value} : ((((w.setCell ⟨r, 0, none⟩ a).setCell ⟨r, 1, none⟩ b).setCell ⟨r, 2, none⟩ c).setCell ⟨r, 3, none⟩ d).ownsRow base e size v n xs :=
  have hne : v.ownBlock ≠ some r := fun he => by have := (own_blk h he).1; omega
  own_set_ne (own_set_ne (own_set_ne (own_set_ne (own_base h hb) hne _) hne _) hne _) hne _

theorem CirOwn.sets4 {w : World} {base base' r : Nat} {c : Cir} {vn vg vo : Value} (h : CirOwn w base' c vn vg vo) (hr : r < base') (hb : base ≤ base') {a b' c' d : Value} : CirOwn ((((w.setCell ⟨r, 0, none⟩ a).setCell ⟨r, 1, none⟩ b').setCell ⟨r, 2, none⟩ c').setCell ⟨r, 3, none⟩ d) base c vn vg vo :=
  ⟨own_sets4' h.n hr hb, own_sets4' h.g hr hb, own_sets4' h.o hr hb, h.ne, h.l1, h.l2, h.l3⟩

theorem Lv_two {c : Cir} (hv : c.valid) : ∀ i, i < c.gates.length → 2 ≤ (Lv c i).length := by
  intro i
  induction i using Nat.strongRecOn with
  | ind i ih =>
    intro hi
    obtain ⟨g, hg⟩ := get_of_lt hi
    obtain ⟨⟨a0, a2⟩, b0, b2⟩ := valid_gate hv hg
    rw [Lv_eq hv hg, List.length_append]
    have key : ∀ l, 0 ≤ l → l / 2 < c.first + i → 1 ≤ (lvP c l).length := fun l h0 hl => by
      unfold lvP
      by_cases h : oneP c l
      · rw [if_pos h]
        have hj := oneP_lt h hl
        have := ih _ hj (by omega); omega
      · rw [if_neg h]; simp
    have h1 := key g.a a0 a2
    have h2 := key g.b b0 b2
    omega

theorem Lv_mem {c : Cir} (hv : c.valid) : ∀ i, i < c.gates.length → ∀ l ∈ Lv c i, 0 ≤ l ∧ l / 2 < c.first + i := by
  intro i
  induction i using Nat.strongRecOn with
  | ind i ih =>
    intro hi l hl
    obtain ⟨g, hg⟩ := get_of_lt hi
    obtain ⟨⟨a0, a2⟩, b0, b2⟩ := valid_gate hv hg
    rw [Lv_eq hv hg, List.mem_append] at hl
    have key : ∀ m, 0 ≤ m → m / 2 < c.first + i → l ∈ lvP c m → 0 ≤ l ∧ l / 2 < c.first + i := fun m h0 hm hlm => by
      unfold lvP at hlm
      by_cases h : oneP c m
      · rw [if_pos h] at hlm
        have hj := oneP_lt h hm
        have := ih _ hj (by omega) l hlm; omega
      · rw [if_neg h] at hlm
        simp at hlm; subst hlm; exact ⟨h0, hm⟩
    rcases hl with hl | hl
    · exact key _ a0 a2 hl
    · exact key _ b0 b2 hl

def LsPost (ys : List Int) (w : World) (e : Ending) (w' : World) : Prop :=
  ∃ s c', e = .returned (.slice s ys.length c') ∧ w'.ownsRow w.heap.size 3 1 (.slice s ys.length c') ys.length (ints ys) ∧ Below w.heap.size w w'

theorem use_operand {c : Cir} {i : Nat} {g : Gt} (hg : c.gates[i]? = some g) : 1 ≤ cntL c.usesI (g.a / 2) ∧ 1 ≤ cntL c.usesI (g.b / 2) := by
  have hm := List.mem_of_getElem? hg
  have h : ∀ l, l ∈ glits c.gates → 1 ≤ cntL c.usesI (l / 2) := fun l hl => by
    unfold cntL Cir.usesI
    refine List.length_pos_iff.2 (List.ne_nil_of_mem (a := l) ?_)
    simp [hl]
  exact ⟨h _ (List.mem_flatMap.2 ⟨g, hm, by simp⟩), h _ (List.mem_flatMap.2 ⟨g, hm, by simp⟩)⟩

theorem own_lit1 (w : World) (l : Int) (base : Nat) (hb : base ≤ w.heap.size) : (w.alloc (.cells #[.int .i64 l] 3)).ownsRow base 3 1 (.slice (some ⟨w.heap.size, 0, none⟩) 1 1) 1 (ints [l]) :=
  World.ownsRow_lit w #[.int .i64 l] 1 hb (by unfold maxLen; omega) (by simp)

set_option maxHeartbeats 800000 in
theorem l19_leaf (c : Cir) (hv : c.valid) (l : Int) (h0 : 0 ≤ l) (hlV : l / 2 < c.vars) (ho : ¬ oneP c l) (hu : 1 ≤ cntL c.usesI (l / 2)) (w : World) (v : Value) (h : CirV w v c) :
    Calls Try.prog 45 #[v, .int .i64 l, .bool false] w (LsPost [l] w) := by
  have HC : Hid (∀ w', Below w.heap.size w w' → CirV w' v c) := fun w' hb => h.mono hb
  obtain ⟨sn, cn, sg, cg, so, co, rfl, h1, h2, h3, hl1, hl2, hl3⟩ := h
  obtain ⟨f1, f2, f3, f4⟩ := valid_first hv
  obtain ⟨q1, q2, q3, q4, q5⟩ := id hv.lim
  have hL : Below w.heap.size w (w.alloc (.cells #[.int .i64 c.inp, .slice sn c.next.length cn, .slice sg c.gates.length cg, .slice so c.outs.length co] 28)) := by go_grown
  have hN := blk_new w (.cells #[.int .i64 c.inp, .slice sn c.next.length cn, .slice sg c.gates.length cg, .slice so c.outs.length co] 28)
  have HL := Lib.hid (And.intro hL (And.intro hN hv))
  have hl50 : l ≤ 50 := by omega
  obtain ⟨F, hF⟩ : ∃ F : Nat, c.first = F := ⟨c.first.toNat, by omega⟩
  have e1 : 1 + c.inp + (c.next.length : Int) = (F : Int) := by rw [← hF]; rfl
  have E1 := Lib.hid e1
  have hF8 : (F : Int) ≤ 8 := by omega
  have hcs : l / 2 < F ∨ ((F : Int) ≤ l / 2 ∧ l % 2 = 1) ∨ ((F : Int) ≤ l / 2 ∧ l % 2 = 0 ∧ 1 < cntL c.usesI (l / 2)) := by
    unfold oneP at ho
    rw [hF] at ho
    by_cases a1 : l / 2 < F
    · exact .inl a1
    · by_cases a2 : l % 2 = 1
      · exact .inr (.inl ⟨by omega, a2⟩)
      · exact .inr (.inr ⟨by omega, by omega, by
          have : ¬ cntL c.usesI (l / 2) = 1 := fun e => ho ⟨by omega, by omega, e⟩
          omega⟩)
  have HH := Lib.hid hcs
  clear hL hN h1 h2 h3 hv f1 f2 f3 f4 hlV ho hu hF e1 hcs
  have armF : True := trivial
  rcases HH.out with a1 | ⟨a1, a2⟩ | ⟨a1, a2, a3⟩
  · go_enter Try.func45, Try.ntmps45
    go_wp2_with (go_at_call 44; ((refine (l1First_any _ _ _ _ _ _ _ (by omega) (by omega)).mono ?_); rintro e w1 ⟨rfl, hq⟩; rw [E1.out]; have HQ := Lib.hid (HL.out.1.trans (hq.mono (by simp))); clear hq))
    go_ret
    exact ⟨_, _, rfl, own_lit1 _ _ _ HQ.out.size, HQ.out.alloc HQ.out.size _⟩
  · have b2 : ((l % 2 : Int) == 1) = true := by simpa using a2
    have A2 := Lib.hid a2
    clear a2
    go_enter Try.func45, Try.ntmps45
    go_wp2_with (go_at_call 44; ((refine (l1First_any _ _ _ _ _ _ _ (by omega) (by omega)).mono ?_); rintro e w1 ⟨rfl, hq⟩; rw [E1.out]; have HQ := Lib.hid (HL.out.1.trans (hq.mono (by simp))); clear hq))
    go_ret
    exact ⟨_, _, rfl, own_lit1 _ _ _ HQ.out.size, HQ.out.alloc HQ.out.size _⟩
  · have b2 : ((l % 2 : Int) == 1) = false := beq_eq_false_iff_ne.2 (by omega)
    have A2 := Lib.hid a2
    have A3 := Lib.hid a3
    clear a2 a3
    go_enter Try.func45, Try.ntmps45
    go_wp2_with (first
      | (go_at_call 44; ((refine (l1First_any _ _ _ _ _ _ _ (by omega) (by omega)).mono ?_); rintro e w1 ⟨rfl, hq⟩; rw [E1.out]; have HQ := Lib.hid (And.intro (HL.out.1.trans (hq.mono (by simp))) (blk_below hq (blk_lt HL.out.2.1) HL.out.2.1)); have ca := (blk_all HQ.out.2).1; clear hq))
      | (go_at_call 82; ((refine (l19Uses_any _ _ _ _ (HC.out _ HQ.out.1) HL.out.2.2).mono ?_); rintro e w2 ⟨q, rfl, hq, hb⟩; have hq1 : (1 : Int) < (q : Int) := (by rw [hq]; have := A3.out; omega); have HQ2 := Lib.hid (HQ.out.1.trans (hb.mono HQ.out.1.size)); clear hq hb)))
    go_ret
    exact ⟨_, _, rfl, own_lit1 _ _ _ HQ2.out.size, HQ2.out.alloc HQ2.out.size _⟩

set_option maxHeartbeats 4000000 in
theorem l19_gate (c : Cir) (hv : c.valid) : ∀ (i : Nat), i < c.gates.length → ∀ (l : Int) (root : Bool), 0 ≤ l → l / 2 = c.first + i → l % 2 = 0 → (root = false → cntL c.usesI (l / 2) = 1) →
    ∀ (w : World) (v : Value), CirV w v c → Calls Try.prog 45 #[v, .int .i64 l, .bool root] w (LsPost (Lv c i) w) := by
  intro i
  induction i using Nat.strongRecOn with
  | ind i ih =>
    intro hi l root hl0 hl2 hl3 hr w v h
    have HC : Hid (∀ w', Below w.heap.size w w' → CirV w' v c) := fun w' hb => h.mono hb
    obtain ⟨g, hgi⟩ := get_of_lt hi
    obtain ⟨f1, f2, f3, f4⟩ := valid_first hv
    obtain ⟨q1, q2, q3, q4, q5⟩ := id hv.lim
    obtain ⟨⟨a1, a2⟩, b1, b2⟩ := valid_gate hv hgi
    obtain ⟨ua, ub⟩ := use_operand hgi
    have hop : ∀ l', 0 ≤ l' → l' / 2 < c.first + i → 1 ≤ cntL c.usesI (l' / 2) → ∀ (w : World) (v : Value), CirV w v c → Calls Try.prog 45 #[v, .int .i64 l', .bool false] w (LsPost (lvP c l') w) := fun l' h0 h1 h2 w v hc => by
      unfold lvP
      by_cases ho : oneP c l'
      · rw [if_pos ho]
        have hj := oneP_lt ho h1
        exact ih _ hj (by omega) l' false h0 (by have := ho.2.1; omega) ho.1 (fun _ => ho.2.2) w v hc
      · rw [if_neg ho]
        exact l19_leaf c hv l' h0 (by omega) ho h2 w v hc
    have la := lvP_len a2
    have lb := lvP_len b2
    have hpow : 2 ^ i ≤ 2 ^ 14 := Nat.pow_le_pow_right (by omega) (by omega)
    have hL : Lv c i = lvP c g.a ++ lvP c g.b := Lv_eq hv hgi
    rw [hL]
    have hA := hop g.a a1 a2 ua
    have hB := hop g.b b1 b2 ub
    obtain ⟨sn, cn, sg, cg, so, co, rfl, h1, h2, h3, hl1, hl2', hl3'⟩ := h
    obtain ⟨gb, goff, rfl, hgb, z1, z2⟩ := h2.gate (Below.refl _ _) hgi
    obtain ⟨F, hF⟩ : ∃ F : Nat, c.first = F := ⟨c.first.toNat, by omega⟩
    have e1 : 1 + c.inp + (c.next.length : Int) = (F : Int) := by rw [← hF]; rfl
    have E1 := Lib.hid e1
    have hF8 : (F : Int) ≤ 8 ∧ (0 : Int) ≤ F := by omega
    obtain ⟨hF8, hF0⟩ := hF8
    have hl50 : l ≤ 100 := by omega
    have hln : l / 2 = (F : Int) + i := by rw [hl2, hF]
    have b2' : ((l % 2 : Int) == 1) = false := beq_eq_false_iff_ne.2 (by omega)
    have hL : Below w.heap.size w (w.alloc (.cells #[.int .i64 c.inp, .slice sn c.next.length cn, .slice (some ⟨gb, goff, none⟩) c.gates.length cg, .slice so c.outs.length co] 28)) := by go_grown
    have hN := blk_new w (.cells #[.int .i64 c.inp, .slice sn c.next.length cn, .slice (some ⟨gb, goff, none⟩) c.gates.length cg, .slice so c.outs.length co] 28)
    have HL := Lib.hid (And.intro hL (And.intro hN (And.intro hv (And.intro hA (And.intro hB (And.intro la (And.intro lb hpow)))))))
    have HG := Lib.hid (And.intro z1 z2)
    have i0 : (0 : Int) ≤ (i : Int) := by omega
    have i1 : (i : Int) < (c.gates.length : Int) := by omega
    have hu1 : root = false → cntL c.usesI (l / 2) = 1 := hr
    clear hL hN h1 h2 h3 hv f1 f2 f3 f4 ua ub hA hB hop ih la lb hpow e1 a2 b2 hgi hl2 hl3 z1 z2 hr hF
    cases root
    · have hu2 : cntL c.usesI ((F : Int) + i) = 1 := by rw [← hln]; exact hu1 rfl
      have HU := Lib.hid hu2
      clear hu2
      clear hu1
      go_enter Try.func45, Try.ntmps45
      go_wp2_with (first
        | (go_at_call 44; ((refine (l1First_any _ _ _ _ _ _ _ (by omega) (by omega)).mono ?_); rintro e w1 ⟨rfl, hq⟩; rw [E1.out]; have HQ := Lib.hid (And.intro (HL.out.1.trans (hq.mono (by simp))) (And.intro (blk_below hq (blk_lt HL.out.2.1) HL.out.2.1) (show w.heap.size < w1.heap.size by have := hq.size; simp at this; omega))); have ca := (blk_all HQ.out.2.1).1; clear hq))
        | (go_at_call 82; ((refine (l19Uses_any _ _ _ _ (HC.out _ HQ.out.1) HL.out.2.2.1).mono ?_); rintro e w2 ⟨q, rfl, hq, hb⟩; have hq1 : ¬ (1 : Int) < (q : Int) := (by rw [hq]; have := HU.out; omega); have HQ := Lib.hid (And.intro (HQ.out.1.trans (hb.mono HQ.out.1.size)) (And.intro (blk_below hb (blk_lt HQ.out.2.1) HQ.out.2.1) (show w.heap.size < w2.heap.size by have := HQ.out.2.2; have := hb.size; omega))); clear ca; have ca := (blk_all HQ.out.2.1).1; clear hq hb)))
      have hws := HQ.out.2.2
      have hw0 := HQ.out.1.size
      obtain ⟨z1, z2⟩ : w2.cell? ⟨gb, goff + i * 2, none⟩ = some (.int .i64 g.a) ∧ w2.cell? ⟨gb, goff + i * 2 + 1, none⟩ = some (.int .i64 g.b) := ⟨(HQ.out.1.cell (p := ⟨gb, goff + i * 2, none⟩) (by simp; omega)).trans HG.out.1, (HQ.out.1.cell (p := ⟨gb, goff + i * 2 + 1, none⟩) (by simp; omega)).trans HG.out.2⟩
      have hwr : IntKind.i64.wrap ((F : Int) + (i : Int) - (F : Int)) = (i : Int) := by rw [IntWalk.i64_in _ ⟨by omega, by omega⟩]; omega
      go_cut [8] from 32 to 39 (fun s8 wx => ∃ g' : Nat, s8 = .pointer (some ⟨g', 0, none⟩) ∧ w2.heap.size ≤ g' ∧ wx.heap[g']? = some (.cells #[.int .i64 g.a, .int .i64 g.b] 24 (0, 0)) ∧ Below w2.heap.size w2 wx)
      case first =>
        refine wp_region_T (fun w' => (∀ o, w'.cell? ⟨w.heap.size, o, none⟩ = #[Value.int .i64 c.inp, Value.slice sn c.next.length cn, Value.slice (some ⟨gb, goff, none⟩) c.gates.length cg, Value.slice so c.outs.length co][o]?) ∧ w'.cell? ⟨gb, goff + i * 2, none⟩ = some (.int .i64 g.a) ∧ w'.cell? ⟨gb, goff + i * 2 + 1, none⟩ = some (.int .i64 g.b)) (.q 0 (.q 1 (.q 2 (.q 3 (.two 4 (.q 5 (.q 6 (.q 7 (.e 8 (.e 9 .nil))))) 8 (.e 4 (.q 5 (.q 6 (.q 7 (.e 9 .nil)))))))))) (by kernel_rfl) (by kernel_rfl) (by kernel_rfl) ⟨ca, z1, z2⟩ ?_
        repeat (first | (refine ordt_s (o := ?_) ?_ ?_ ?_; rotate_left 1; (focus ((simp only [zD, zE, zF]) <;> rfl)); (focus rfl); simp only [Act.put, zA, zB, zC]) | (refine ordt_q (o := ?_) (v := ?_) ?_ ?_ ?_ ?_; rotate_left 2; (focus ((simp only [zD, zE, zF]) <;> rfl)); (focus rfl); (focus (intro w' hS; (try dsimp only at hS); go_split_ands; go_simp; (try (with_reducible rfl)))); simp only [Act.put, zA, zB, zC]))
        refine ordt_two ?_ ?_
        · (refine op_e (o := ?_) ?_ ?_ (fun K hK => ?_); rotate_left 1; (focus ((simp only [zD, zE, zF]) <;> rfl)); (focus rfl); go_simp)
          refine (l1First_any _ _ _ _ _ _ _ (by omega) (by omega)).mono ?_
          rintro e wa ⟨rfl, hq⟩
          rw [E1.out]
          have hb : Below w2.heap.size w2 wa := (Below.refl _ _).drew.trans hq
          refine hK.out _ _ ⟨(blk_all (blk_below hb (by omega) HQ.out.2.1)).1, (hb.cell (p := ⟨gb, goff + i * 2, none⟩) (by simp; omega)).trans z1, (hb.cell (p := ⟨gb, goff + i * 2 + 1, none⟩) (by simp; omega)).trans z2⟩ ?_
          clear hK K hq
          have HA := Lib.hid hb
          clear hb
          (try simp only [Act.put, zA, zB, zC])
          repeat (first | (refine ordt_s (o := ?_) ?_ ?_ ?_; rotate_left 1; (focus ((simp only [zD, zE, zF]) <;> rfl)); (focus rfl); simp only [Act.put, zA, zB, zC]) | (refine ordt_q (o := ?_) (v := ?_) ?_ ?_ ?_ ?_; rotate_left 2; (focus ((simp only [zD, zE, zF]) <;> rfl)); (focus rfl); (focus (intro w' hS; (try dsimp only at hS); go_split_ands; go_simp; (try (with_reducible rfl)))); simp only [Act.put, zA, zB, zC]))
          refine ordt_e ?_
          (refine op_e (o := ?_) ?_ ?_ (fun K hK => ?_); rotate_left 1; (focus ((simp only [zD, zE, zF]) <;> rfl)); (focus rfl); go_simp)
          have hb1 := HA.out.alloc HA.out.size (.cells #[.int .i64 0, .int .i64 0] 24)
          have hn := blk_new wa (.cells #[.int .i64 0, .int .i64 0] 24)
          have hga := HA.out.size
          revert hb1 hn
          generalize wa.alloc (.cells #[.int .i64 0, .int .i64 0] 24) = Wb
          intro hb1 hn
          refine hK.out _ _ ⟨(blk_all (blk_below hb1 (by omega) HQ.out.2.1)).1, (hb1.cell (p := ⟨gb, goff + i * 2, none⟩) (by simp; omega)).trans z1, (hb1.cell (p := ⟨gb, goff + i * 2 + 1, none⟩) (by simp; omega)).trans z2⟩ ?_
          clear hK K
          have k0 : Wb.cell? ⟨wa.heap.size, 0, none⟩ = some (.int .i64 0) := blk_cell hn
          have k1 : Wb.cell? ⟨wa.heap.size, 1, none⟩ = some (.int .i64 0) := blk_cell hn
          have k2 : Wb.frozen? ⟨wa.heap.size, 0, none⟩ = false := blk_free hn
          have k3 : Wb.frozen? ⟨wa.heap.size, 1, none⟩ = false := blk_free hn
          have HB := Lib.hid (And.intro hb1 hn)
          clear hb1 hn
          (try simp only [Act.put, zA, zB, zC])

          refine ordt_e ?_
          (refine op_e (o := ?_) ?_ ?_ (fun K hK => ?_); rotate_left 1; (focus ((simp only [zD, zE, zF]) <;> rfl)); (focus rfl); go_simp)
          have hn := blk_set (o := 1) (v := .int .i64 g.b) (blk_set (o := 0) (v := .int .i64 g.a) HB.out.2)
          have hb1 := (HB.out.1.setCell (p := ⟨wa.heap.size, 0, none⟩) hga (.int .i64 g.a)).setCell (p := ⟨wa.heap.size, 1, none⟩) hga (.int .i64 g.b)
          clear k0 k1 k2 k3
          revert hn hb1
          generalize (Wb.setCell ⟨wa.heap.size, 0, none⟩ (.int .i64 g.a)).setCell ⟨wa.heap.size, 1, none⟩ (.int .i64 g.b) = Wc
          intro hn hb1
          refine hK.out _ _ ⟨(blk_all (blk_below hb1 (by omega) HQ.out.2.1)).1, (hb1.cell (p := ⟨gb, goff + i * 2, none⟩) (by simp; omega)).trans z1, (hb1.cell (p := ⟨gb, goff + i * 2 + 1, none⟩) (by simp; omega)).trans z2⟩ ?_
          clear hK K
          have HC2 := Lib.hid (And.intro hn hb1)
          clear hn hb1
          (try simp only [Act.put, zA, zB, zC])
          refine ordt_nil ?_
          go_wp2_with fail
          go_meet
          exact ⟨wa.heap.size, rfl, hga, HC2.out.1, HC2.out.2⟩
        · (refine op_e (o := ?_) ?_ ?_ (fun K hK => ?_); rotate_left 1; (focus ((simp only [zD, zE, zF]) <;> rfl)); (focus rfl); go_simp)
          have hb1 : Below w2.heap.size w2 (w2.alloc (.cells #[.int .i64 0, .int .i64 0] 24)).drew := ((Below.refl _ _).alloc (Nat.le_refl _) _).drew
          have hn : (w2.alloc (.cells #[.int .i64 0, .int .i64 0] 24)).drew.heap[w2.heap.size]? = some (.cells #[.int .i64 0, .int .i64 0] 24 (0, 0)) := blk_new w2 _
          revert hb1 hn
          generalize (w2.alloc (.cells #[.int .i64 0, .int .i64 0] 24)).drew = Wb0
          intro hb1 hn
          refine hK.out _ _ ⟨(blk_all (blk_below hb1 (by omega) HQ.out.2.1)).1, (hb1.cell (p := ⟨gb, goff + i * 2, none⟩) (by simp; omega)).trans z1, (hb1.cell (p := ⟨gb, goff + i * 2 + 1, none⟩) (by simp; omega)).trans z2⟩ ?_
          clear hK K
          have HA := Lib.hid (And.intro hb1 hn)
          clear hb1 hn
          (try simp only [Act.put, zA, zB, zC])
          refine ordt_e ?_
          (refine op_e (o := ?_) ?_ ?_ (fun K hK => ?_); rotate_left 1; (focus ((simp only [zD, zE, zF]) <;> rfl)); (focus rfl); go_simp)
          refine (l1First_any _ _ _ _ _ _ _ (by omega) (by omega)).mono ?_
          rintro e Wb ⟨rfl, hq⟩
          rw [E1.out]
          have hb1 : Below w2.heap.size w2 Wb := HA.out.1.trans (hq.mono HA.out.1.size)
          have hn := blk_below hq (blk_lt HA.out.2) HA.out.2
          have hga := Nat.le_refl w2.heap.size
          refine hK.out _ _ ⟨(blk_all (blk_below hb1 (by omega) HQ.out.2.1)).1, (hb1.cell (p := ⟨gb, goff + i * 2, none⟩) (by simp; omega)).trans z1, (hb1.cell (p := ⟨gb, goff + i * 2 + 1, none⟩) (by simp; omega)).trans z2⟩ ?_
          clear hK K hq
          have k0 : Wb.cell? ⟨w2.heap.size, 0, none⟩ = some (.int .i64 0) := blk_cell hn
          have k1 : Wb.cell? ⟨w2.heap.size, 1, none⟩ = some (.int .i64 0) := blk_cell hn
          have k2 : Wb.frozen? ⟨w2.heap.size, 0, none⟩ = false := blk_free hn
          have k3 : Wb.frozen? ⟨w2.heap.size, 1, none⟩ = false := blk_free hn
          have HB := Lib.hid (And.intro hb1 hn)
          clear hb1 hn
          (try simp only [Act.put, zA, zB, zC])
          repeat (first | (refine ordt_s (o := ?_) ?_ ?_ ?_; rotate_left 1; (focus ((simp only [zD, zE, zF]) <;> rfl)); (focus rfl); simp only [Act.put, zA, zB, zC]) | (refine ordt_q (o := ?_) (v := ?_) ?_ ?_ ?_ ?_; rotate_left 2; (focus ((simp only [zD, zE, zF]) <;> rfl)); (focus rfl); (focus (intro w' hS; (try dsimp only at hS); go_split_ands; go_simp; (try (with_reducible rfl)))); simp only [Act.put, zA, zB, zC]))
          refine ordt_e ?_
          (refine op_e (o := ?_) ?_ ?_ (fun K hK => ?_); rotate_left 1; (focus ((simp only [zD, zE, zF]) <;> rfl)); (focus rfl); go_simp)
          have hn := blk_set (o := 1) (v := .int .i64 g.b) (blk_set (o := 0) (v := .int .i64 g.a) HB.out.2)
          have hb1 := (HB.out.1.setCell (p := ⟨w2.heap.size, 0, none⟩) hga (.int .i64 g.a)).setCell (p := ⟨w2.heap.size, 1, none⟩) hga (.int .i64 g.b)
          clear k0 k1 k2 k3
          revert hn hb1
          generalize (Wb.setCell ⟨w2.heap.size, 0, none⟩ (.int .i64 g.a)).setCell ⟨w2.heap.size, 1, none⟩ (.int .i64 g.b) = Wc
          intro hn hb1
          refine hK.out _ _ ⟨(blk_all (blk_below hb1 (by omega) HQ.out.2.1)).1, (hb1.cell (p := ⟨gb, goff + i * 2, none⟩) (by simp; omega)).trans z1, (hb1.cell (p := ⟨gb, goff + i * 2 + 1, none⟩) (by simp; omega)).trans z2⟩ ?_
          clear hK K
          have HC2 := Lib.hid (And.intro hn hb1)
          clear hn hb1
          (try simp only [Act.put, zA, zB, zC])
          refine ordt_nil ?_
          go_wp2_with fail
          go_meet
          exact ⟨w2.heap.size, rfl, hga, HC2.out.1, HC2.out.2⟩
      case rest =>
        obtain ⟨g', rfl, hg', hn, hb⟩ := hcut
        have hbw := HQ.out.1.trans (hb.mono HQ.out.1.size)
        have HR := Lib.hid (And.intro hbw (And.intro hn (blk_below hb (blk_lt HQ.out.2.1) HQ.out.2.1)))
        clear ca z1 z2 hb hbw hn hwr
        go_wp2_with fail
        refine wp_region_T (fun w' => (∀ o, w'.cell? ⟨w.heap.size, o, none⟩ = #[Value.int .i64 c.inp, Value.slice sn c.next.length cn, Value.slice (some ⟨gb, goff, none⟩) c.gates.length cg, Value.slice so c.outs.length co][o]?) ∧ w'.cell? ⟨g', 0, none⟩ = some (.int .i64 g.a) ∧ w'.cell? ⟨g', 1, none⟩ = some (.int .i64 g.b)) (.q 0 (.q 1 (.q 2 (.q 4 (.q 5 (.q 6 (.e 3 (.e 7 (.e 8 (.q 9 .nil)))))))))) (by kernel_rfl) (by kernel_rfl) (by kernel_rfl) ⟨(blk_all HR.out.2.2).1, blk_cell HR.out.2.1, blk_cell HR.out.2.1⟩ ?_
        repeat (first | (refine ordt_s (o := ?_) ?_ ?_ ?_; rotate_left 1; (focus ((simp only [zD, zE, zF]) <;> rfl)); (focus rfl); simp only [Act.put, zA, zB, zC]) | (refine ordt_q (o := ?_) (v := ?_) ?_ ?_ ?_ ?_; rotate_left 2; (focus ((simp only [zD, zE, zF]) <;> rfl)); (focus rfl); (focus (intro w' hS; (try dsimp only at hS); go_split_ands; go_simp; (try (with_reducible rfl)))); simp only [Act.put, zA, zB, zC]))
        refine ordt_e ?_
        (refine op_e (o := ?_) ?_ ?_ (fun K hK => ?_); rotate_left 1; (focus ((simp only [zD, zE, zF]) <;> rfl)); (focus rfl); go_simp)
        refine (HL.out.2.2.2.1 _ _ ((HC.out _ HR.out.1).mono (Below.refl _ _).drew)).mono ?_
        rintro e wA ⟨sA, cA, rfl, hoA, hbA⟩
        have hb2 : Below wc.heap.size wc wA := (Below.refl _ _).drew.trans hbA
        have hgl := blk_lt HR.out.2.1
        have hwl := blk_lt HR.out.2.2
        refine hK.out _ _ ⟨(blk_all (blk_below hb2 hwl HR.out.2.2)).1, blk_cell (blk_below hb2 hgl HR.out.2.1), blk_cell (blk_below hb2 hgl HR.out.2.1)⟩ ?_
        clear hK K
        have HA := Lib.hid (And.intro (HR.out.1.trans (hb2.mono HR.out.1.size)) (And.intro (blk_below hb2 hwl HR.out.2.2) (And.intro (blk_below hb2 hgl HR.out.2.1) hoA)))
        have hszA := hb2.size
        clear hbA hb2 hoA
        (try simp only [Act.put, zA, zB, zC])
        refine ordt_e ?_
        (refine op_e (o := ?_) ?_ ?_ (fun K hK => ?_); rotate_left 1; (focus ((simp only [zD, zE, zF]) <;> rfl)); (focus rfl); go_simp)
        refine (HL.out.2.2.2.2.1 _ _ (HC.out _ HA.out.1)).mono ?_
        rintro e wB ⟨sB, cB, rfl, hoB, hbB⟩
        refine hK.out _ _ ⟨(blk_all (blk_below hbB (blk_lt HA.out.2.1) HA.out.2.1)).1, blk_cell (blk_below hbB (blk_lt HA.out.2.2.1) HA.out.2.2.1), blk_cell (blk_below hbB (blk_lt HA.out.2.2.1) HA.out.2.2.1)⟩ ?_
        clear hK K
        have HB2 := Lib.hid (And.intro (HA.out.1.trans (hbB.mono HA.out.1.size)) (And.intro (blk_below hbB (blk_lt HA.out.2.1) HA.out.2.1) (And.intro (blk_below hbB (blk_lt HA.out.2.2.1) HA.out.2.2.1) (And.intro (own_below HA.out.2.2.2 hbB) (And.intro (own_sl hoB) (show wc.heap.size ≤ wB.heap.size by have h1 := HA.out.2.2.2.2; have h2 := hbB.size; have h3 := hszA; omega))))))
        clear hbB hoB
        (try simp only [Act.put, zA, zB, zC])
        refine ordt_e ?_
        (refine op_e (o := ?_) ?_ ?_ (fun K hK => ?_); rotate_left 1; (focus ((simp only [zD, zE, zF]) <;> rfl)); (focus rfl))
        have lA : (lvP c g.a).length ≤ 100000 := by have h1 := HL.out.2.2.2.2.2; omega
        have lB : (lvP c g.b).length ≤ 100000 := by have h1 := HL.out.2.2.2.2.2; omega
        refine wp_app (.tmp 43) (.tmp 47) rfl elem_int (own_base HB2.out.2.2.2.1 (Nat.le_refl wc.heap.size)) rfl rfl (by simp) HB2.out.2.2.2.2.1 (ints_one _) ((lvP c g.a).length + (lvP c g.b).length) rfl (ints (lvP c g.a ++ lvP c g.b)) (by rw [ints_append]) (by unfold maxLen; omega) (by omega) (by have := HB2.out.2.2.2.1; exact HB2.out.2.2.2.2.2) ?_
        intro s5 c5 W5 ho5 hb5 _ _
        have hbE := HB2.out.1.trans (hb5.mono HR.out.1.size)
        refine hK.out _ _ ⟨(blk_all (blk_below hb5 hwl HB2.out.2.1)).1, blk_cell (blk_below hb5 hgl HB2.out.2.2.1), blk_cell (blk_below hb5 hgl HB2.out.2.2.1)⟩ ?_
        clear hK K
        have H5 := Lib.hid (And.intro (own_base ho5 HR.out.1.size) hbE)
        clear ho5 hb5 hbE
        (try simp only [Act.put, zA, zB, zC])
        repeat (first | (refine ordt_s (o := ?_) ?_ ?_ ?_; rotate_left 1; (focus ((simp only [zD, zE, zF]) <;> rfl)); (focus rfl); simp only [Act.put, zA, zB, zC]) | (refine ordt_q (o := ?_) (v := ?_) ?_ ?_ ?_ ?_; rotate_left 2; (focus ((simp only [zD, zE, zF]) <;> rfl)); (focus rfl); (focus (intro w' hS; (try dsimp only at hS); go_split_ands; go_simp; (try (with_reducible rfl)))); simp only [Act.put, zA, zB, zC]))
        refine ordt_nil ?_
        go_wp2_with fail
        go_ret
        have hl : (lvP c g.a ++ lvP c g.b).length = (lvP c g.a).length + (lvP c g.b).length := by simp
        exact ⟨s5, c5, ret_sl hl.symm, by rw [hl]; exact H5.out.1, H5.out.2⟩
    · clear hu1
      go_enter Try.func45, Try.ntmps45
      go_wp2_with (first
        | (go_at_call 44; ((refine (l1First_any _ _ _ _ _ _ _ (by omega) (by omega)).mono ?_); rintro e w1 ⟨rfl, hq⟩; rw [E1.out]; have HQ := Lib.hid (And.intro (HL.out.1.trans (hq.mono (by simp))) (And.intro (blk_below hq (blk_lt HL.out.2.1) HL.out.2.1) (show w.heap.size < w1.heap.size by have := hq.size; simp at this; omega))); have ca := (blk_all HQ.out.2.1).1; clear hq)))
      have hws := HQ.out.2.2
      have hw0 := HQ.out.1.size
      obtain ⟨z1, z2⟩ : w1.cell? ⟨gb, goff + i * 2, none⟩ = some (.int .i64 g.a) ∧ w1.cell? ⟨gb, goff + i * 2 + 1, none⟩ = some (.int .i64 g.b) := ⟨(HQ.out.1.cell (p := ⟨gb, goff + i * 2, none⟩) (by simp; omega)).trans HG.out.1, (HQ.out.1.cell (p := ⟨gb, goff + i * 2 + 1, none⟩) (by simp; omega)).trans HG.out.2⟩
      have hwr : IntKind.i64.wrap ((F : Int) + (i : Int) - (F : Int)) = (i : Int) := by rw [IntWalk.i64_in _ ⟨by omega, by omega⟩]; omega
      go_cut [8] from 32 to 39 (fun s8 wx => ∃ g' : Nat, s8 = .pointer (some ⟨g', 0, none⟩) ∧ w1.heap.size ≤ g' ∧ wx.heap[g']? = some (.cells #[.int .i64 g.a, .int .i64 g.b] 24 (0, 0)) ∧ Below w1.heap.size w1 wx)
      case first =>
        refine wp_region_T (fun w' => (∀ o, w'.cell? ⟨w.heap.size, o, none⟩ = #[Value.int .i64 c.inp, Value.slice sn c.next.length cn, Value.slice (some ⟨gb, goff, none⟩) c.gates.length cg, Value.slice so c.outs.length co][o]?) ∧ w'.cell? ⟨gb, goff + i * 2, none⟩ = some (.int .i64 g.a) ∧ w'.cell? ⟨gb, goff + i * 2 + 1, none⟩ = some (.int .i64 g.b)) (.q 0 (.q 1 (.q 2 (.q 3 (.two 4 (.q 5 (.q 6 (.q 7 (.e 8 (.e 9 .nil))))) 8 (.e 4 (.q 5 (.q 6 (.q 7 (.e 9 .nil)))))))))) (by kernel_rfl) (by kernel_rfl) (by kernel_rfl) ⟨ca, z1, z2⟩ ?_
        repeat (first | (refine ordt_s (o := ?_) ?_ ?_ ?_; rotate_left 1; (focus ((simp only [zD, zE, zF]) <;> rfl)); (focus rfl); simp only [Act.put, zA, zB, zC]) | (refine ordt_q (o := ?_) (v := ?_) ?_ ?_ ?_ ?_; rotate_left 2; (focus ((simp only [zD, zE, zF]) <;> rfl)); (focus rfl); (focus (intro w' hS; (try dsimp only at hS); go_split_ands; go_simp; (try (with_reducible rfl)))); simp only [Act.put, zA, zB, zC]))
        refine ordt_two ?_ ?_
        · (refine op_e (o := ?_) ?_ ?_ (fun K hK => ?_); rotate_left 1; (focus ((simp only [zD, zE, zF]) <;> rfl)); (focus rfl); go_simp)
          refine (l1First_any _ _ _ _ _ _ _ (by omega) (by omega)).mono ?_
          rintro e wa ⟨rfl, hq⟩
          rw [E1.out]
          have hb : Below w1.heap.size w1 wa := (Below.refl _ _).drew.trans hq
          refine hK.out _ _ ⟨(blk_all (blk_below hb (by omega) HQ.out.2.1)).1, (hb.cell (p := ⟨gb, goff + i * 2, none⟩) (by simp; omega)).trans z1, (hb.cell (p := ⟨gb, goff + i * 2 + 1, none⟩) (by simp; omega)).trans z2⟩ ?_
          clear hK K hq
          have HA := Lib.hid hb
          clear hb
          (try simp only [Act.put, zA, zB, zC])
          repeat (first | (refine ordt_s (o := ?_) ?_ ?_ ?_; rotate_left 1; (focus ((simp only [zD, zE, zF]) <;> rfl)); (focus rfl); simp only [Act.put, zA, zB, zC]) | (refine ordt_q (o := ?_) (v := ?_) ?_ ?_ ?_ ?_; rotate_left 2; (focus ((simp only [zD, zE, zF]) <;> rfl)); (focus rfl); (focus (intro w' hS; (try dsimp only at hS); go_split_ands; go_simp; (try (with_reducible rfl)))); simp only [Act.put, zA, zB, zC]))
          refine ordt_e ?_
          (refine op_e (o := ?_) ?_ ?_ (fun K hK => ?_); rotate_left 1; (focus ((simp only [zD, zE, zF]) <;> rfl)); (focus rfl); go_simp)
          have hb1 := HA.out.alloc HA.out.size (.cells #[.int .i64 0, .int .i64 0] 24)
          have hn := blk_new wa (.cells #[.int .i64 0, .int .i64 0] 24)
          have hga := HA.out.size
          revert hb1 hn
          generalize wa.alloc (.cells #[.int .i64 0, .int .i64 0] 24) = Wb
          intro hb1 hn
          refine hK.out _ _ ⟨(blk_all (blk_below hb1 (by omega) HQ.out.2.1)).1, (hb1.cell (p := ⟨gb, goff + i * 2, none⟩) (by simp; omega)).trans z1, (hb1.cell (p := ⟨gb, goff + i * 2 + 1, none⟩) (by simp; omega)).trans z2⟩ ?_
          clear hK K
          have k0 : Wb.cell? ⟨wa.heap.size, 0, none⟩ = some (.int .i64 0) := blk_cell hn
          have k1 : Wb.cell? ⟨wa.heap.size, 1, none⟩ = some (.int .i64 0) := blk_cell hn
          have k2 : Wb.frozen? ⟨wa.heap.size, 0, none⟩ = false := blk_free hn
          have k3 : Wb.frozen? ⟨wa.heap.size, 1, none⟩ = false := blk_free hn
          have HB := Lib.hid (And.intro hb1 hn)
          clear hb1 hn
          (try simp only [Act.put, zA, zB, zC])

          refine ordt_e ?_
          (refine op_e (o := ?_) ?_ ?_ (fun K hK => ?_); rotate_left 1; (focus ((simp only [zD, zE, zF]) <;> rfl)); (focus rfl); go_simp)
          have hn := blk_set (o := 1) (v := .int .i64 g.b) (blk_set (o := 0) (v := .int .i64 g.a) HB.out.2)
          have hb1 := (HB.out.1.setCell (p := ⟨wa.heap.size, 0, none⟩) hga (.int .i64 g.a)).setCell (p := ⟨wa.heap.size, 1, none⟩) hga (.int .i64 g.b)
          clear k0 k1 k2 k3
          revert hn hb1
          generalize (Wb.setCell ⟨wa.heap.size, 0, none⟩ (.int .i64 g.a)).setCell ⟨wa.heap.size, 1, none⟩ (.int .i64 g.b) = Wc
          intro hn hb1
          refine hK.out _ _ ⟨(blk_all (blk_below hb1 (by omega) HQ.out.2.1)).1, (hb1.cell (p := ⟨gb, goff + i * 2, none⟩) (by simp; omega)).trans z1, (hb1.cell (p := ⟨gb, goff + i * 2 + 1, none⟩) (by simp; omega)).trans z2⟩ ?_
          clear hK K
          have HC2 := Lib.hid (And.intro hn hb1)
          clear hn hb1
          (try simp only [Act.put, zA, zB, zC])
          refine ordt_nil ?_
          go_wp2_with fail
          go_meet
          exact ⟨wa.heap.size, rfl, hga, HC2.out.1, HC2.out.2⟩
        · (refine op_e (o := ?_) ?_ ?_ (fun K hK => ?_); rotate_left 1; (focus ((simp only [zD, zE, zF]) <;> rfl)); (focus rfl); go_simp)
          have hb1 : Below w1.heap.size w1 (w1.alloc (.cells #[.int .i64 0, .int .i64 0] 24)).drew := ((Below.refl _ _).alloc (Nat.le_refl _) _).drew
          have hn : (w1.alloc (.cells #[.int .i64 0, .int .i64 0] 24)).drew.heap[w1.heap.size]? = some (.cells #[.int .i64 0, .int .i64 0] 24 (0, 0)) := blk_new w1 _
          revert hb1 hn
          generalize (w1.alloc (.cells #[.int .i64 0, .int .i64 0] 24)).drew = Wb0
          intro hb1 hn
          refine hK.out _ _ ⟨(blk_all (blk_below hb1 (by omega) HQ.out.2.1)).1, (hb1.cell (p := ⟨gb, goff + i * 2, none⟩) (by simp; omega)).trans z1, (hb1.cell (p := ⟨gb, goff + i * 2 + 1, none⟩) (by simp; omega)).trans z2⟩ ?_
          clear hK K
          have HA := Lib.hid (And.intro hb1 hn)
          clear hb1 hn
          (try simp only [Act.put, zA, zB, zC])
          refine ordt_e ?_
          (refine op_e (o := ?_) ?_ ?_ (fun K hK => ?_); rotate_left 1; (focus ((simp only [zD, zE, zF]) <;> rfl)); (focus rfl); go_simp)
          refine (l1First_any _ _ _ _ _ _ _ (by omega) (by omega)).mono ?_
          rintro e Wb ⟨rfl, hq⟩
          rw [E1.out]
          have hb1 : Below w1.heap.size w1 Wb := HA.out.1.trans (hq.mono HA.out.1.size)
          have hn := blk_below hq (blk_lt HA.out.2) HA.out.2
          have hga := Nat.le_refl w1.heap.size
          refine hK.out _ _ ⟨(blk_all (blk_below hb1 (by omega) HQ.out.2.1)).1, (hb1.cell (p := ⟨gb, goff + i * 2, none⟩) (by simp; omega)).trans z1, (hb1.cell (p := ⟨gb, goff + i * 2 + 1, none⟩) (by simp; omega)).trans z2⟩ ?_
          clear hK K hq
          have k0 : Wb.cell? ⟨w1.heap.size, 0, none⟩ = some (.int .i64 0) := blk_cell hn
          have k1 : Wb.cell? ⟨w1.heap.size, 1, none⟩ = some (.int .i64 0) := blk_cell hn
          have k2 : Wb.frozen? ⟨w1.heap.size, 0, none⟩ = false := blk_free hn
          have k3 : Wb.frozen? ⟨w1.heap.size, 1, none⟩ = false := blk_free hn
          have HB := Lib.hid (And.intro hb1 hn)
          clear hb1 hn
          (try simp only [Act.put, zA, zB, zC])
          repeat (first | (refine ordt_s (o := ?_) ?_ ?_ ?_; rotate_left 1; (focus ((simp only [zD, zE, zF]) <;> rfl)); (focus rfl); simp only [Act.put, zA, zB, zC]) | (refine ordt_q (o := ?_) (v := ?_) ?_ ?_ ?_ ?_; rotate_left 2; (focus ((simp only [zD, zE, zF]) <;> rfl)); (focus rfl); (focus (intro w' hS; (try dsimp only at hS); go_split_ands; go_simp; (try (with_reducible rfl)))); simp only [Act.put, zA, zB, zC]))
          refine ordt_e ?_
          (refine op_e (o := ?_) ?_ ?_ (fun K hK => ?_); rotate_left 1; (focus ((simp only [zD, zE, zF]) <;> rfl)); (focus rfl); go_simp)
          have hn := blk_set (o := 1) (v := .int .i64 g.b) (blk_set (o := 0) (v := .int .i64 g.a) HB.out.2)
          have hb1 := (HB.out.1.setCell (p := ⟨w1.heap.size, 0, none⟩) hga (.int .i64 g.a)).setCell (p := ⟨w1.heap.size, 1, none⟩) hga (.int .i64 g.b)
          clear k0 k1 k2 k3
          revert hn hb1
          generalize (Wb.setCell ⟨w1.heap.size, 0, none⟩ (.int .i64 g.a)).setCell ⟨w1.heap.size, 1, none⟩ (.int .i64 g.b) = Wc
          intro hn hb1
          refine hK.out _ _ ⟨(blk_all (blk_below hb1 (by omega) HQ.out.2.1)).1, (hb1.cell (p := ⟨gb, goff + i * 2, none⟩) (by simp; omega)).trans z1, (hb1.cell (p := ⟨gb, goff + i * 2 + 1, none⟩) (by simp; omega)).trans z2⟩ ?_
          clear hK K
          have HC2 := Lib.hid (And.intro hn hb1)
          clear hn hb1
          (try simp only [Act.put, zA, zB, zC])
          refine ordt_nil ?_
          go_wp2_with fail
          go_meet
          exact ⟨w1.heap.size, rfl, hga, HC2.out.1, HC2.out.2⟩
      case rest =>
        obtain ⟨g', rfl, hg', hn, hb⟩ := hcut
        have hbw := HQ.out.1.trans (hb.mono HQ.out.1.size)
        have HR := Lib.hid (And.intro hbw (And.intro hn (blk_below hb (blk_lt HQ.out.2.1) HQ.out.2.1)))
        clear ca z1 z2 hb hbw hn hwr
        go_wp2_with fail
        refine wp_region_T (fun w' => (∀ o, w'.cell? ⟨w.heap.size, o, none⟩ = #[Value.int .i64 c.inp, Value.slice sn c.next.length cn, Value.slice (some ⟨gb, goff, none⟩) c.gates.length cg, Value.slice so c.outs.length co][o]?) ∧ w'.cell? ⟨g', 0, none⟩ = some (.int .i64 g.a) ∧ w'.cell? ⟨g', 1, none⟩ = some (.int .i64 g.b)) (.q 0 (.q 1 (.q 2 (.q 4 (.q 5 (.q 6 (.e 3 (.e 7 (.e 8 (.q 9 .nil)))))))))) (by kernel_rfl) (by kernel_rfl) (by kernel_rfl) ⟨(blk_all HR.out.2.2).1, blk_cell HR.out.2.1, blk_cell HR.out.2.1⟩ ?_
        repeat (first | (refine ordt_s (o := ?_) ?_ ?_ ?_; rotate_left 1; (focus ((simp only [zD, zE, zF]) <;> rfl)); (focus rfl); simp only [Act.put, zA, zB, zC]) | (refine ordt_q (o := ?_) (v := ?_) ?_ ?_ ?_ ?_; rotate_left 2; (focus ((simp only [zD, zE, zF]) <;> rfl)); (focus rfl); (focus (intro w' hS; (try dsimp only at hS); go_split_ands; go_simp; (try (with_reducible rfl)))); simp only [Act.put, zA, zB, zC]))
        refine ordt_e ?_
        (refine op_e (o := ?_) ?_ ?_ (fun K hK => ?_); rotate_left 1; (focus ((simp only [zD, zE, zF]) <;> rfl)); (focus rfl); go_simp)
        refine (HL.out.2.2.2.1 _ _ ((HC.out _ HR.out.1).mono (Below.refl _ _).drew)).mono ?_
        rintro e wA ⟨sA, cA, rfl, hoA, hbA⟩
        have hb2 : Below wc.heap.size wc wA := (Below.refl _ _).drew.trans hbA
        have hgl := blk_lt HR.out.2.1
        have hwl := blk_lt HR.out.2.2
        refine hK.out _ _ ⟨(blk_all (blk_below hb2 hwl HR.out.2.2)).1, blk_cell (blk_below hb2 hgl HR.out.2.1), blk_cell (blk_below hb2 hgl HR.out.2.1)⟩ ?_
        clear hK K
        have HA := Lib.hid (And.intro (HR.out.1.trans (hb2.mono HR.out.1.size)) (And.intro (blk_below hb2 hwl HR.out.2.2) (And.intro (blk_below hb2 hgl HR.out.2.1) hoA)))
        have hszA := hb2.size
        clear hbA hb2 hoA
        (try simp only [Act.put, zA, zB, zC])
        refine ordt_e ?_
        (refine op_e (o := ?_) ?_ ?_ (fun K hK => ?_); rotate_left 1; (focus ((simp only [zD, zE, zF]) <;> rfl)); (focus rfl); go_simp)
        refine (HL.out.2.2.2.2.1 _ _ (HC.out _ HA.out.1)).mono ?_
        rintro e wB ⟨sB, cB, rfl, hoB, hbB⟩
        refine hK.out _ _ ⟨(blk_all (blk_below hbB (blk_lt HA.out.2.1) HA.out.2.1)).1, blk_cell (blk_below hbB (blk_lt HA.out.2.2.1) HA.out.2.2.1), blk_cell (blk_below hbB (blk_lt HA.out.2.2.1) HA.out.2.2.1)⟩ ?_
        clear hK K
        have HB2 := Lib.hid (And.intro (HA.out.1.trans (hbB.mono HA.out.1.size)) (And.intro (blk_below hbB (blk_lt HA.out.2.1) HA.out.2.1) (And.intro (blk_below hbB (blk_lt HA.out.2.2.1) HA.out.2.2.1) (And.intro (own_below HA.out.2.2.2 hbB) (And.intro (own_sl hoB) (show wc.heap.size ≤ wB.heap.size by have h1 := HA.out.2.2.2.2; have h2 := hbB.size; have h3 := hszA; omega))))))
        clear hbB hoB
        (try simp only [Act.put, zA, zB, zC])
        refine ordt_e ?_
        (refine op_e (o := ?_) ?_ ?_ (fun K hK => ?_); rotate_left 1; (focus ((simp only [zD, zE, zF]) <;> rfl)); (focus rfl))
        have lA : (lvP c g.a).length ≤ 100000 := by have h1 := HL.out.2.2.2.2.2; omega
        have lB : (lvP c g.b).length ≤ 100000 := by have h1 := HL.out.2.2.2.2.2; omega
        refine wp_app (.tmp 43) (.tmp 47) rfl elem_int (own_base HB2.out.2.2.2.1 (Nat.le_refl wc.heap.size)) rfl rfl (by simp) HB2.out.2.2.2.2.1 (ints_one _) ((lvP c g.a).length + (lvP c g.b).length) rfl (ints (lvP c g.a ++ lvP c g.b)) (by rw [ints_append]) (by unfold maxLen; omega) (by omega) (by have := HB2.out.2.2.2.1; exact HB2.out.2.2.2.2.2) ?_
        intro s5 c5 W5 ho5 hb5 _ _
        have hbE := HB2.out.1.trans (hb5.mono HR.out.1.size)
        refine hK.out _ _ ⟨(blk_all (blk_below hb5 hwl HB2.out.2.1)).1, blk_cell (blk_below hb5 hgl HB2.out.2.2.1), blk_cell (blk_below hb5 hgl HB2.out.2.2.1)⟩ ?_
        clear hK K
        have H5 := Lib.hid (And.intro (own_base ho5 HR.out.1.size) hbE)
        clear ho5 hb5 hbE
        (try simp only [Act.put, zA, zB, zC])
        repeat (first | (refine ordt_s (o := ?_) ?_ ?_ ?_; rotate_left 1; (focus ((simp only [zD, zE, zF]) <;> rfl)); (focus rfl); simp only [Act.put, zA, zB, zC]) | (refine ordt_q (o := ?_) (v := ?_) ?_ ?_ ?_ ?_; rotate_left 2; (focus ((simp only [zD, zE, zF]) <;> rfl)); (focus rfl); (focus (intro w' hS; (try dsimp only at hS); go_split_ands; go_simp; (try (with_reducible rfl)))); simp only [Act.put, zA, zB, zC]))
        refine ordt_nil ?_
        go_wp2_with fail
        go_ret
        have hl : (lvP c g.a ++ lvP c g.b).length = (lvP c g.a).length + (lvP c g.b).length := by simp
        exact ⟨s5, c5, ret_sl hl.symm, by rw [hl]; exact H5.out.1, H5.out.2⟩

end Go.Proofs.Ytjecchljhdfjdaa
