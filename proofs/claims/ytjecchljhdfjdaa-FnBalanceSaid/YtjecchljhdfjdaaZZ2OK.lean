import Derived.Test.YtjecchljhdfjdaaZZ2OA
import Derived.Test.YtjecchljhdfjdaaZZ2OB
import Derived.Test.YtjecchljhdfjdaaZZ2RA
import Derived.Test.YtjecchljhdfjdaaZZ2Y0
import Derived.Laws.StructEq
namespace Go.Proofs.Ytjecchljhdfjdaa
set_option linter.unusedVariables false
set_option linter.unusedSimpArgs false
open Go.RowKit

/-! Part of the proof of one law. -/

theorem markU_no {F : Int} {u : List Bool} {l : Int} (h : ¬ F ≤ l / 2) : markU F u l = u := by unfold markU; rw [if_neg h]

theorem markU_yes {F : Int} {u : List Bool} {l : Int} {q : Nat} (h : l / 2 - F = q) : markU F u l = u.set q true := by
  unfold markU; rw [if_pos (by omega), h, Int.toNat_natCast]

/-- After j of a gate's two operands. -/
def uJ (F : Int) (u : List Bool) (x : Bool) (a b : Int) : Nat → List Bool
  | 0 => u
  | 1 => if x then markU F u a else u
  | _ => if x then markU F (markU F u a) b else u

theorem usedS_eq {F : Int} {gs : List Gt} {u : List Bool} {k : Nat} {g : Gt} {x : Bool} (hg : gs[k]? = some g) (hx : u[k]? = some x) : usedS F gs k u = uJ F u x g.a g.b 2 := by
  have e : u.getD k false = x := by rw [List.getD_eq_getElem?_getD, hx]; rfl
  unfold usedS uJ
  rw [hg]
  show (if u.getD k false then _ else _) = _
  rw [e]
  rfl

theorem uJ_length {F : Int} {u : List Bool} {x : Bool} {a b : Int} {j : Nat} : (uJ F u x a b j).length = u.length := by
  unfold uJ
  split
  · rfl
  · split
    · rw [markU_length]
    · rfl
  · split
    · rw [markU_length, markU_length]
    · rfl

set_option maxRecDepth 100000 in
set_option maxHeartbeats 6400000 in
theorem l3Used_any (v : Value) (c : Cir) (w : World) (h : CirV w v c) (hv : c.wide) :
    Calls Try.prog 86 #[v] w fun e w' => ∃ s cap, e = .returned (.slice s c.gates.length cap) ∧ Sl w' s (bools (usedL c)) ∧ Below w.heap.size w w' := by
  have HV := Lib.hid hv
  obtain ⟨i0, i1, n3, g14, o3⟩ := id hv.lim
  have HG := Lib.hid h
  obtain ⟨sn, cn, sg, cg, so, co, rfl, -, -, -, -, -, -⟩ := h
  have HS0 : Hid (∀ W, Below w.heap.size w W → Sl W sn (ints c.next) ∧ Sl W sg (gcells c.gates) ∧ Sl W so (ints c.outs)) := fun W hW => by
    obtain ⟨sn', cn', sg', cg', so', co', e, h1, h2, h3, -⟩ := HG.out.mono hW
    simp only [Value.agg.injEq, Array.mk.injEq, List.cons.injEq, Value.slice.injEq, and_true, true_and] at e
    obtain ⟨⟨rfl, rfl⟩, ⟨rfl, rfl⟩, rfl, rfl⟩ := e
    exact ⟨h1, h2, h3⟩
  clear hv
  obtain ⟨W0, hW0⟩ : ∃ W0, W0 = w.alloc (.cells #[.int .i64 c.inp, .slice sn c.next.length cn, .slice sg c.gates.length cg, .slice so c.outs.length co] 28) := ⟨_, rfl⟩
  obtain ⟨A, hA⟩ : ∃ A, A = w.heap.size := ⟨_, rfl⟩
  have z1 : W0.heap.size = A + 1 := by rw [hW0, hA]; simp
  have z2 : W0.heap[A]? = some (.cells #[.int .i64 c.inp, .slice sn c.next.length cn, .slice sg c.gates.length cg, .slice so c.outs.length co] 28 (0, 0)) := by rw [hW0, hA]; exact blk_new w _
  have z4 : Below w.heap.size w W0 := by rw [hW0]; exact (Below.refl _ _).alloc (Nat.le_refl _) _
  have HW := Lib.hid (And.intro hW0 (And.intro hA z1))
  obtain ⟨F, hF⟩ : ∃ F : Nat, 1 + c.inp + (c.next.length : Int) = F := ⟨(1 + c.inp + (c.next.length : Int)).toNat, by omega⟩
  have hF8 : F ≤ 8 := by omega
  have HB : Hid (∀ W, Below W0.heap.size W0 W → (∀ o, W.cell? ⟨A, o, none⟩ = #[Value.int .i64 c.inp, .slice sn c.next.length cn, .slice sg c.gates.length cg, .slice so c.outs.length co][o]?) ∧ Below w.heap.size w W) := fun W hW => ⟨(blk_all (blk_below hW (by omega) z2)).1, z4.trans (hW.mono z4.size)⟩
  clear hW0 hA z1 z2 z4
  have HFF := Lib.hid hF
  have HLT : Hid (∀ l, (l ∈ c.outs ++ c.next) → 0 ≤ l ∧ l / 2 < (F : Int) + c.gates.length) := fun l hl => by
    have eV : c.vars = 1 + c.inp + c.next.length + c.gates.length := rfl
    have : litP l c.vars := by
      rcases List.mem_append.1 hl with h | h
      · exact HV.out.outs l h
      · exact HV.out.next l h
    obtain ⟨a, b⟩ := this
    have := HFF.out
    omega
  have HGT : Hid (∀ (i : Nat) (g : Gt), c.gates[i]? = some g → (0 ≤ g.a ∧ g.a / 2 < (F : Int) + c.gates.length) ∧ 0 ≤ g.b ∧ g.b / 2 < (F : Int) + c.gates.length) := fun i g hg => by
    have eF : c.first = 1 + c.inp + c.next.length := rfl
    have hlt := (List.getElem?_eq_some_iff.1 hg).1
    obtain ⟨⟨a, b⟩, d, e⟩ := gatesP_at HV.out.gates hg
    have := HFF.out
    omega
  have HU : Hid (usedL c = usedK F c.gates c.gates.length (used0 F c.gates.length (c.outs ++ c.next))) := by
    show usedL c = _
    unfold usedL
    rw [show c.first = (F : Int) from HFF.out]
  obtain ⟨roots, hro⟩ : ∃ roots, roots = c.outs ++ c.next := ⟨_, rfl⟩
  have hrl : roots.length = c.outs.length + c.next.length := by rw [hro]; simp
  have hr6 : roots.length ≤ 6 := by omega
  have hrI : ints c.outs ++ ints c.next = ints roots := by rw [hro, ints_append]
  rw [← hro] at HLT HU
  have HRO := Lib.hid (And.intro hrl hrI)
  clear hro hrl hrI hF
  obtain ⟨n, hn⟩ : ∃ n, n = c.gates.length := ⟨_, rfl⟩
  have hn14 : n ≤ 120 := by omega
  have hmk := fun w => mkBools w n (by omega)
  rw [← hn] at HB HLT HGT HU HW ⊢
  have HN := Lib.hid hn
  clear hn g14
  go_enter Try.func86, Try.ntmps86
  go_upto_region 1 with fail
  rw [← HW.out.1, ← HW.out.2.1]
  have cb := (HB.out _ (Below.refl _ _)).1
  go_upto_region 2 with (go_at_call 44; ((with_reducible refine (l1First_any _ _ _ _ _ _ _ (by omega) (by omega)).mono ?_); rintro e w1 ⟨rfl, hq⟩; rw [HFF.out]; have H1 := Lib.hid hq; clear hq cb; have cb := (HB.out _ H1.out).1))
  go_upto_region 3 with fail
  obtain ⟨U, hU⟩ : ∃ U, U = w1.heap.size := ⟨_, rfl⟩
  have hb1 := H1.out.alloc H1.out.size (.cells (bools (List.replicate n false)).toArray 4)
  have hk1 := blk_new w1 (.cells (bools (List.replicate n false)).toArray 4)
  have hz1 : A < U := by have h1 := H1.out.size; have h2 := HW.out.2.2; omega
  have hz2 : (w1.alloc (.cells (bools (List.replicate n false)).toArray 4)).heap.size = U + 1 := by rw [hU]; simp
  rw [← hU] at hk1
  rw [← hU]
  clear hU hmk cb H1
  revert hb1 hk1 hz2
  generalize w1.alloc (.cells (bools (List.replicate n false)).toArray 4) = W1
  intro hb1 hk1 hz2
  have H1 := Lib.hid (And.intro hb1 (And.intro hk1 hz2))
  clear hb1 hk1 hz2
  go_cut [5] from 16 to 22 (fun s5 wx => ∃ (s : Option Addr) (cp : Nat), s5 = .slice s roots.length cp ∧ wx.ownsRow W1.heap.size 3 1 (.slice s roots.length cp) roots.length (ints roots) ∧ Below W1.heap.size W1 wx)
  case first =>
    refine wp_region_T (fun w' => ∀ o, w'.cell? ⟨A, o, none⟩ = #[Value.int .i64 c.inp, .slice sn c.next.length cn, .slice sg n cg, .slice so c.outs.length co][o]?) (.q 1 (.q 2 (.q 4 (.q 5 (.e 0 (.e 3 (.e 6 (.q 7 .nil)))))))) (by kernel_rfl) (by kernel_rfl) (by kernel_rfl) (HB.out _ H1.out.1.drew).1 ?_
    have hd := (Below.refl W1.heap.size W1).drew
    revert hd
    generalize W1.drew = Wd
    intro hd
    have HD := Lib.hid hd
    clear hd
    repeat (first | (refine ordt_s (o := ?_) ?_ ?_ ?_; rotate_left 1; (focus ((simp only [zD, zE, zF]) <;> rfl)); (focus rfl); simp only [Act.put, zA, zB, zC]) | (refine ordt_q (o := ?_) (v := ?_) ?_ ?_ ?_ ?_; rotate_left 2; (focus ((simp only [zD, zE, zF]) <;> rfl)); (focus rfl); (focus (intro w' hS; (try dsimp only at hS); go_split_ands; go_simp; (try (with_reducible rfl)))); simp only [Act.put, zA, zB, zC]))
    refine ordt_e ?_
    (refine op_e (o := ?_) ?_ ?_ (fun K hK => ?_); rotate_left 1; (focus ((simp only [zD, zE, zF]) <;> rfl)); (focus rfl); go_simp)
    have hb := HD.out.alloc HD.out.size (.cells #[] 3)
    have hown0 : World.ownsRow (Wd.alloc (.cells #[] 3)) W1.heap.size 3 1 (.slice (some ⟨Wd.heap.size, 0, none⟩) 0 0) 0 [] := own_of_blk (size := 1) (n := 0) (cur := #[]) (blk_new Wd _) HD.out.size (by simp) (by unfold maxLen; omega)
    refine hK.out _ _ (HB.out _ (H1.out.1.trans (hb.mono H1.out.1.size))).1 ?_
    clear hK K
    have H2 := Lib.hid (And.intro hown0 hb)
    clear hown0 hb
    (try simp only [Act.put, zA, zB, zC])
    repeat (first | (refine ordt_s (o := ?_) ?_ ?_ ?_; rotate_left 1; (focus ((simp only [zD, zE, zF]) <;> rfl)); (focus rfl); simp only [Act.put, zA, zB, zC]) | (refine ordt_q (o := ?_) (v := ?_) ?_ ?_ ?_ ?_; rotate_left 2; (focus ((simp only [zD, zE, zF]) <;> rfl)); (focus rfl); (focus (intro w' hS; (try dsimp only at hS); go_split_ands; go_simp; (try (with_reducible rfl)))); simp only [Act.put, zA, zB, zC]))
    refine ordt_e ?_
    (refine op_e (o := ?_) ?_ ?_ (fun K hK => ?_); rotate_left 1; (focus ((simp only [zD, zE, zF]) <;> rfl)); (focus rfl))
    refine wp_app (.tmp 16) (.tmp 18) rfl elem_int H2.out.1 rfl rfl (by simp) (HS0.out _ (HB.out _ (H1.out.1.trans (H2.out.2.mono H1.out.1.size))).2).2.2 (ints_one _) c.outs.length (by omega) (ints c.outs) (by simp) (by unfold maxLen; omega) (by omega) H2.out.2.size ?_
    intro s6 c6 w6 h6 hb6 _ _
    have hq6 := H2.out.2.trans hb6
    refine hK.out _ _ (HB.out _ (H1.out.1.trans (hq6.mono H1.out.1.size))).1 ?_
    clear hK K
    have H6 := Lib.hid (And.intro h6 hq6)
    clear h6 hb6 hq6
    (try simp only [Act.put, zA, zB, zC])
    repeat (first | (refine ordt_s (o := ?_) ?_ ?_ ?_; rotate_left 1; (focus ((simp only [zD, zE, zF]) <;> rfl)); (focus rfl); simp only [Act.put, zA, zB, zC]) | (refine ordt_q (o := ?_) (v := ?_) ?_ ?_ ?_ ?_; rotate_left 2; (focus ((simp only [zD, zE, zF]) <;> rfl)); (focus rfl); (focus (intro w' hS; (try dsimp only at hS); go_split_ands; go_simp; (try (with_reducible rfl)))); simp only [Act.put, zA, zB, zC]))
    refine ordt_e ?_
    (refine op_e (o := ?_) ?_ ?_ (fun K hK => ?_); rotate_left 1; (focus ((simp only [zD, zE, zF]) <;> rfl)); (focus rfl))
    refine wp_app (.tmp 19) (.tmp 21) rfl elem_int H6.out.1 rfl rfl (by simp) (HS0.out _ (HB.out _ (H1.out.1.trans (H6.out.2.mono H1.out.1.size))).2).1 (ints_one _) roots.length (by rw [HRO.out.1]) (ints roots) HRO.out.2 (by unfold maxLen; omega) (by omega) H6.out.2.size ?_
    intro s7 c7 w7 h7 hb7 _ _
    have hq7 := H6.out.2.trans hb7
    refine hK.out _ _ (HB.out _ (H1.out.1.trans (hq7.mono H1.out.1.size))).1 ?_
    clear hK K
    have H7 := Lib.hid (And.intro h7 hq7)
    clear h7 hb7 hq7
    (try simp only [Act.put, zA, zB, zC])
    repeat (first | (refine ordt_s (o := ?_) ?_ ?_ ?_; rotate_left 1; (focus ((simp only [zD, zE, zF]) <;> rfl)); (focus rfl); simp only [Act.put, zA, zB, zC]) | (refine ordt_q (o := ?_) (v := ?_) ?_ ?_ ?_ ?_; rotate_left 2; (focus ((simp only [zD, zE, zF]) <;> rfl)); (focus rfl); (focus (intro w' hS; (try dsimp only at hS); go_split_ands; go_simp; (try (with_reducible rfl)))); simp only [Act.put, zA, zB, zC]))
    refine ordt_nil ?_
    go_wp2_with fail
    go_meet
    exact ⟨s7, c7, rfl, H7.out.1, H7.out.2⟩
  case rest =>
    obtain ⟨s5, c5, rfl, ho5, hb5⟩ := hcut
    have H5 := Lib.hid (And.intro (own_base ho5 (show U + 1 ≤ W1.heap.size by have := H1.out.2.2; omega)) (And.intro (blk_below hb5 (blk_lt H1.out.2.1) H1.out.2.1) (H1.out.1.trans (hb5.mono H1.out.1.size))))
    clear ho5 hb5
    obtain ⟨L, hL⟩ : ∃ L, L = roots.length := ⟨_, rfl⟩
    rw [← hL] at hr6 H5 ⊢
    have HL := Lib.hid hL
    clear hL
    go_upto_region 5 with fail
    go_loopw [6] (fun s6 wr => ∃ k : Nat, k ≤ L ∧ s6 = .int .i64 k ∧ wr.ownsRow (U + 1) 3 1 (.slice s5 L c5) L (ints roots) ∧ wr.heap[U]? = some (.cells (bools (used0 F n (roots.take k))).toArray 4 (0, 0)) ∧ Below U wc wr ∧ wc.heap.size ≤ wr.heap.size) (fun s6 _ => L - (intOf s6).toNat)
    case atStart => exact ⟨0, Nat.zero_le _, rfl, H5.out.1, H5.out.2.1, Below.refl _ _, Nat.le_refl _⟩
    case round =>
      obtain ⟨k, hk, rfl, ho, hu, hb, hsz⟩ := hrel
      by_cases hlt : k < L
      · obtain ⟨l, hl⟩ := get_of_lt (l := roots) (k := k) (by have := HL.out; omega)
        obtain ⟨b, off, rfl, hbw, y1⟩ := (own_sl ho).int (Below.refl _ _) hl
        obtain ⟨l0, l1⟩ := HLT.out l (List.mem_of_getElem? hl)
        have hss := used0_snoc (F := F) (n := n) hl
        have hlen := used0_length F n (roots.take k)
        have HR := Lib.hid (And.intro ho (And.intro hu (And.intro hb (And.intro hsz hss))))
        by_cases hFl : (F : Int) ≤ l / 2
        · obtain ⟨q, hq⟩ : ∃ q : Nat, l / 2 - (F : Int) = q := ⟨(l / 2 - (F : Int)).toNat, by omega⟩
          have hqn : q < n := by omega
          obtain ⟨x, hx⟩ := get_of_lt (l := used0 F n (roots.take k)) (k := q) (by omega)
          have y2 := bools_cell hu hx
          have y3 : wr.frozen? ⟨U, q, none⟩ = false := blk_free hu
          have HQ := Lib.hid hq
          clear ho hu hb hss hlen hl hx
          go_wp2_with fail
          have hne : (Value.slice (some ⟨b, off, none⟩) L c5).ownBlock ≠ some U := by intro e; have := (own_blk HR.out.1 e).1; omega
          go_roundw
          case rel => exact ⟨k + 1, by omega, by go_num, own_set_ne HR.out.1 hne _, by rw [HR.out.2.2.2.2, markU_yes HQ.out]; exact bools_blk_set HR.out.2.1 q true, HR.out.2.2.1.setCell (Nat.le_refl _) _, by simpa using HR.out.2.2.2.1⟩
          case measure => simp [intOf]; omega
        · clear ho hu hb hss hlen hl
          go_wp2_with fail
          go_roundw
          case rel => exact ⟨k + 1, by omega, by go_num, HR.out.1, by rw [HR.out.2.2.2.2, markU_no hFl]; exact HR.out.2.1, HR.out.2.2.1, HR.out.2.2.2.1⟩
          case measure => simp [intOf]; omega
      · obtain rfl : k = L := by omega
        have hu9 : wr.heap[U]? = some (.cells (bools (used0 F n roots)).toArray 4 (0, 0)) := by rw [List.take_of_length_le (by have := HL.out; omega)] at hu; exact hu
        have H8 := Lib.hid (And.intro hu9 (And.intro (show Below W0.heap.size W0 wr from H5.out.2.2.trans (hb.mono (by have := HW.out.2.2; omega))) (show U < wr.heap.size from blk_lt hu)))
        clear ho hu hb hu9 hsz
        have cb := (HB.out _ H8.out.2.1).1
        obtain ⟨ws, rfl⟩ : ∃ ws, ws = wr := ⟨_, rfl⟩
        go_upto_region 10 with fail
        go_loopw [7] (fun s7 wz => ∃ (m : Nat) (u : List Bool), m ≤ n ∧ s7 = .int .i64 ((m : Int) - 1) ∧ u.length = n ∧ usedK F c.gates m u = usedL c ∧ wz.heap[U]? = some (.cells (bools u).toArray 4 (0, 0)) ∧ Below U ws wz) (fun s7 _ => (intOf s7 + 1).toNat)
        case atStart => exact ⟨n, used0 F n roots, Nat.le_refl _, by first | rfl | go_num, used0_length _ _ _, by rw [HU.out], H8.out.1, Below.refl _ _⟩
        case round =>
          obtain ⟨m, u, hm, rfl, hul, huk, hu, hb⟩ := hrel
          obtain ⟨wt, rfl⟩ : ∃ wt, wt = wr := ⟨_, rfl⟩
          have hUA : Below W0.heap.size W0 wt := H8.out.2.1.trans (hb.mono (by have := HW.out.2.2; omega))
          have cb := (HB.out _ hUA).1
          by_cases hm0 : 0 < m
          · obtain ⟨i, hi⟩ : ∃ i : Nat, (m : Int) - 1 = i := ⟨m - 1, by omega⟩
            obtain rfl : m = i + 1 := by omega
            rw [hi]
            clear hi hm0
            have hin : i < n := by omega
            obtain ⟨g, hg⟩ := get_of_lt (l := c.gates) (k := i) (by have := HN.out; omega)
            obtain ⟨x, hx⟩ := get_of_lt (l := u) (k := i) (by omega)
            obtain ⟨⟨a0, a1⟩, b0, b1⟩ := HGT.out i g hg
            have hst := usedS_eq (F := F) hg hx
            obtain ⟨b, off, rfl, hbw, y1, y2⟩ := (HS0.out _ (HB.out _ hUA).2).2.1.gate (Below.refl _ _) hg
            obtain ⟨pa, hpa⟩ : ∃ pa, g.a / 2 = pa := ⟨_, rfl⟩
            obtain ⟨pb, hpb⟩ : ∃ pb, g.b / 2 = pb := ⟨_, rfl⟩
            have HX := Lib.hid hx
            have HUL := Lib.hid hul
            have HUK := Lib.hid (And.intro huk hst)
            have HU0 := Lib.hid (And.intro hu (And.intro hb hUA))
            have HG1 := Lib.hid hg
            clear hx hul huk hst hu hb hUA hg
            go_upto_region 12 with fail
            go_cut [8] from 53 to 67 (fun s8 wx => ∃ O : Nat, s8 = .slice (some ⟨O, 0, none⟩) 2 2 ∧ wx.heap[O]? = some (.cells #[.int .i64 pa, .int .i64 pb] 3 (0, 0)) ∧ U < O ∧ Below wt.heap.size wt wx)
            case first =>
              refine wp_region_T (fun w' => (∀ o, w'.cell? ⟨A, o, none⟩ = #[Value.int .i64 c.inp, .slice sn c.next.length cn, .slice (some ⟨b, off, none⟩) n cg, .slice so c.outs.length co][o]?) ∧ w'.cell? ⟨b, off + i * 2, none⟩ = some (.int .i64 g.a) ∧ w'.cell? ⟨b, off + i * 2 + 1, none⟩ = some (.int .i64 g.b)) (.q 0 (.q 1 (.q 2 (.q 3 (.q 4 (.q 5 (.q 6 (.q 7 (.q 8 (.q 9 (.q 10 (.q 11 (.q 12 (.q 13 (.e 14 (.q 15 .nil)))))))))))))))) (by kernel_rfl) (by kernel_rfl) (by kernel_rfl) ⟨cb, y1, y2⟩ ?_
              have hd := (Below.refl wt.heap.size wt).drew
              revert hd
              generalize wt.drew = wd
              intro hd
              have HD := Lib.hid hd
              clear hd
              have hqa : g.a.tdiv 2 = pa := by rw [Int.tdiv_eq_ediv_of_nonneg a0]; exact hpa
              have hqb : g.b.tdiv 2 = pb := by rw [Int.tdiv_eq_ediv_of_nonneg b0]; exact hpb
              have hwa : IntKind.i64.wrap pa = pa := IntWalk.i64_in _ ⟨by omega, by omega⟩
              have hwb : IntKind.i64.wrap pb = pb := IntWalk.i64_in _ ⟨by omega, by omega⟩
              repeat (first | (refine ordt_s (o := ?_) ?_ ?_ ?_; rotate_left 1; (focus ((simp only [zD, zE, zF]) <;> rfl)); (focus rfl); simp only [Act.put, zA, zB, zC]) | (refine ordt_q (o := ?_) (v := ?_) ?_ ?_ ?_ ?_; rotate_left 2; (focus ((simp only [zD, zE, zF]) <;> rfl)); (focus rfl); (focus (intro w' hS; (try dsimp only at hS); go_split_ands; go_simp; (try (with_reducible rfl)))); simp only [Act.put, zA, zB, zC]))
              refine ordt_e ?_
              (refine op_e (o := ?_) ?_ ?_ (fun K hK => ?_); rotate_left 1; (focus ((simp only [zD, zE, zF]) <;> rfl)); (focus rfl); go_simp)
              have hk1 := blk_new wd (.cells #[.int .i64 pa, .int .i64 pb] 3)
              have hb1 := HD.out.alloc HD.out.size (.cells #[.int .i64 pa, .int .i64 pb] 3)
              refine hK.out _ _ ⟨(HB.out _ (HU0.out.2.2.trans (hb1.mono HU0.out.2.2.size))).1, by rw [hb1.cell (by exact hbw)]; exact y1, by rw [hb1.cell (by exact hbw)]; exact y2⟩ ?_
              clear hK K
              have H3 := Lib.hid (And.intro hk1 hb1)
              clear hk1 hb1
              (try simp only [Act.put, zA, zB, zC])
              repeat (first | (refine ordt_s (o := ?_) ?_ ?_ ?_; rotate_left 1; (focus ((simp only [zD, zE, zF]) <;> rfl)); (focus rfl); simp only [Act.put, zA, zB, zC]) | (refine ordt_q (o := ?_) (v := ?_) ?_ ?_ ?_ ?_; rotate_left 2; (focus ((simp only [zD, zE, zF]) <;> rfl)); (focus rfl); (focus (intro w' hS; (try dsimp only at hS); go_split_ands; go_simp; (try (with_reducible rfl)))); simp only [Act.put, zA, zB, zC]))
              refine ordt_nil ?_
              go_wp2_with fail
              go_meet
              exact ⟨_, rfl, H3.out.1, Nat.lt_of_lt_of_le (blk_lt HU0.out.1) HD.out.size, H3.out.2⟩
            case rest =>
              obtain ⟨O, rfl, hO, hUO, hb3⟩ := hcut
              have hu3 := blk_below hb3 (blk_lt HU0.out.1) HU0.out.1
              have H3 := Lib.hid (And.intro hO (And.intro hu3 hb3))
              have HP := Lib.hid (And.intro hpa hpb)
              rw [hpa] at a1
              rw [hpb] at b1
              have a2 : 0 ≤ pa := by omega
              have b2 : 0 ≤ pb := by omega
              clear hO hu3 hb3 hpa hpb cb y1 y2
              go_upto_region 14 with fail
              go_loopw [9] (fun s9 wY => ∃ j : Nat, j ≤ 2 ∧ s9 = .int .i64 j ∧ wY.heap[U]? = some (.cells (bools (uJ F u x g.a g.b j)).toArray 4 (0, 0)) ∧ wY.heap[O]? = some (.cells #[.int .i64 pa, .int .i64 pb] 3 (0, 0)) ∧ Below U wc wY ∧ wc.heap.size ≤ wY.heap.size) (fun s9 _ => 2 - (intOf s9).toNat)
              case atStart => exact ⟨0, by omega, rfl, H3.out.2.1, H3.out.1, Below.refl _ _, Nat.le_refl _⟩
              case round =>
                obtain ⟨j, hj, rfl, hu, hO, hb, hsz⟩ := hrel
                rcases (show j = 0 ∨ j = 1 ∨ j = 2 by omega) with rfl | rfl | rfl
                · cases x
                  · have y2 := bools_cell (p := i) (x := false) hu (by show (uJ F u false g.a g.b 0)[i]? = some false; exact HX.out)
                    have HR := Lib.hid (And.intro hu (And.intro hO (And.intro hb hsz)))
                    clear hu hO hb hsz
                    go_wp2_with fail
                    go_roundw
                    case rel => exact ⟨0 + 1, by omega, by first | rfl | go_num, HR.out.1, HR.out.2.1, HR.out.2.2.1, HR.out.2.2.2⟩
                    case measure => simp [intOf]
                  · have hxx : (uJ F u true g.a g.b 0)[i]? = some true := HX.out
                    have y2 := bools_cell (p := i) (x := true) hu hxx
                    have yO : wr.cell? ⟨O, 0, none⟩ = some (.int .i64 pa) := blk_cell hO
                    by_cases hFl : (F : Int) ≤ pa
                    · obtain ⟨q, hq⟩ : ∃ q : Nat, pa - (F : Int) = q := ⟨(pa - (F : Int)).toNat, by omega⟩
                      have hqn : q < n := by omega
                      obtain ⟨z, hzq⟩ := get_of_lt (l := uJ F u true g.a g.b 0) (k := q) (by rw [uJ_length, HUL.out]; exact hqn)
                      have y4 := bools_cell hu hzq
                      have y3 : wr.frozen? ⟨U, q, none⟩ = false := blk_free hu
                      have HQ := Lib.hid hq
                      have HR := Lib.hid (And.intro hu (And.intro hO (And.intro hb hsz)))
                      clear hu hO hb hsz hzq hxx
                      go_wp2_with fail
                      go_roundw
                      case rel => exact ⟨0 + 1, by omega, by first | rfl | go_num, (by have e : uJ F u true g.a g.b (0 + 1) = markU F u g.a := rfl; rw [e, markU_yes (by rw [HP.out.1]; exact HQ.out)]; exact bools_blk_set HR.out.1 q true), blk_set_ne (by omega) HR.out.2.1, HR.out.2.2.1.setCell (Nat.le_refl _) _, by simpa using HR.out.2.2.2⟩
                      case measure => simp [intOf]
                    · have HR := Lib.hid (And.intro hu (And.intro hO (And.intro hb hsz)))
                      clear hu hO hb hsz hxx
                      go_wp2_with fail
                      go_roundw
                      case rel => exact ⟨0 + 1, by omega, by first | rfl | go_num, (by have e : uJ F u true g.a g.b (0 + 1) = markU F u g.a := rfl; rw [e, markU_no (by rw [HP.out.1]; exact hFl)]; exact HR.out.1), HR.out.2.1, HR.out.2.2.1, HR.out.2.2.2⟩
                      case measure => simp [intOf]
                · cases x
                  · have y2 := bools_cell (p := i) (x := false) hu (by show (uJ F u false g.a g.b 1)[i]? = some false; exact HX.out)
                    have HR := Lib.hid (And.intro hu (And.intro hO (And.intro hb hsz)))
                    clear hu hO hb hsz
                    go_wp2_with fail
                    go_roundw
                    case rel => exact ⟨1 + 1, by omega, by first | rfl | go_num, HR.out.1, HR.out.2.1, HR.out.2.2.1, HR.out.2.2.2⟩
                    case measure => simp [intOf]
                  · have hxx : (uJ F u true g.a g.b 1)[i]? = some true := markU_keep HX.out
                    have y2 := bools_cell (p := i) (x := true) hu hxx
                    have yO : wr.cell? ⟨O, 1, none⟩ = some (.int .i64 pb) := blk_cell hO
                    by_cases hFl : (F : Int) ≤ pb
                    · obtain ⟨q, hq⟩ : ∃ q : Nat, pb - (F : Int) = q := ⟨(pb - (F : Int)).toNat, by omega⟩
                      have hqn : q < n := by omega
                      obtain ⟨z, hzq⟩ := get_of_lt (l := uJ F u true g.a g.b 1) (k := q) (by rw [uJ_length, HUL.out]; exact hqn)
                      have y4 := bools_cell hu hzq
                      have y3 : wr.frozen? ⟨U, q, none⟩ = false := blk_free hu
                      have HQ := Lib.hid hq
                      have HR := Lib.hid (And.intro hu (And.intro hO (And.intro hb hsz)))
                      clear hu hO hb hsz hzq hxx
                      go_wp2_with fail
                      go_roundw
                      case rel => exact ⟨1 + 1, by omega, by first | rfl | go_num, (by have e : uJ F u true g.a g.b (1 + 1) = markU F (markU F u g.a) g.b := rfl; rw [e, markU_yes (by rw [HP.out.2]; exact HQ.out)]; exact bools_blk_set HR.out.1 q true), blk_set_ne (by omega) HR.out.2.1, HR.out.2.2.1.setCell (Nat.le_refl _) _, by simpa using HR.out.2.2.2⟩
                      case measure => simp [intOf]
                    · have HR := Lib.hid (And.intro hu (And.intro hO (And.intro hb hsz)))
                      clear hu hO hb hsz hxx
                      go_wp2_with fail
                      go_roundw
                      case rel => exact ⟨1 + 1, by omega, by first | rfl | go_num, (by have e : uJ F u true g.a g.b (1 + 1) = markU F (markU F u g.a) g.b := rfl; rw [e, markU_no (by rw [HP.out.2]; exact hFl)]; exact HR.out.1), HR.out.2.1, HR.out.2.2.1, HR.out.2.2.2⟩
                      case measure => simp [intOf]
                · have hbb : Below U ws wr := (HU0.out.2.1.trans (H3.out.2.2.mono (by have := blk_lt HU0.out.1; omega))).trans hb
                  have HR := Lib.hid (And.intro hu hbb)
                  clear hu hO hb hsz hbb
                  go_wp2_with fail
                  go_roundw
                  case rel => exact ⟨i, uJ F u x g.a g.b 2, by omega, by first | rfl | go_num, by rw [uJ_length, HUL.out], by rw [← HUK.out.1, ← HUK.out.2]; rfl, HR.out.1, HR.out.2⟩
                  case measure => simp [intOf]; try omega
          · obtain rfl : m = 0 := by omega
            have hsl := Sl.toB hu
            have e0 : usedL c = u := huk.symm
            have HR := Lib.hid (And.intro hsl (And.intro e0 (HB.out _ hUA).2))
            clear hu hb huk hul hUA hsl e0
            go_wp2_with fail
            go_ret
            exact ⟨_, _, rfl, by rw [HR.out.2.1]; exact HR.out.1, HR.out.2.2⟩

/-! A circuit under reconstruction: its block, its slices, the map of variables. -/

theorem belowA (w : World) (o : Obj) : Below w.heap.size w (w.alloc o) := (Below.refl _ _).alloc (Nat.le_refl _) _

structure BS (Wb : World) (B nb b2 : Nat) (inp : Int) (xn : List Int) (vn : Value) (gs : List Gt) (vg : Value) (m : List Int) (vm : Value) (w : World) : Prop where
  blk : w.heap[B]? = some (.cells #[.int .i64 inp, vn, vg, .slice none 0 0] 28 (0, 0))
  n : w.ownsRow nb 3 1 vn xn.length (ints xn)
  g : w.ownsRow b2 24 2 vg gs.length (gcells gs)
  m : w.ownsRow b2 3 1 vm m.length (ints m)
  kp : Kp B b2 Wb w
  hB : B < b2
  hn : ∀ k, vn.ownBlock = some k → k < b2
  hs : b2 ≤ w.heap.size

theorem BS.below {Wb : World} {B nb b2 : Nat} {inp : Int} {xn : List Int} {vn : Value} {gs : List Gt} {vg : Value} {m : List Int} {vm : Value} {w w' : World} (h : BS Wb B nb b2 inp xn vn gs vg m vm w) (hb : Below w.heap.size w w') : BS Wb B nb b2 inp xn vn gs vg m vm w' :=
  ⟨blk_below hb (blk_lt h.blk) h.blk, own_below h.n hb, own_below h.g hb, own_below h.m hb, h.kp.trans (Kp.of_below (hb.mono h.hs)), h.hB, h.hn, Nat.le_trans h.hs hb.size⟩

theorem BS.cells {Wb : World} {B nb b2 : Nat} {inp : Int} {xn : List Int} {vn : Value} {gs : List Gt} {vg : Value} {m : List Int} {vm : Value} {w : World} (h : BS Wb B nb b2 inp xn vn gs vg m vm w) : (∀ o, w.cell? ⟨B, o, none⟩ = #[.int .i64 inp, vn, vg, .slice none 0 0][o]?) ∧ ∀ o, w.frozen? ⟨B, o, none⟩ = false := blk_all h.blk

theorem BS.pushM {Wb : World} {B nb b2 : Nat} {inp : Int} {xn : List Int} {vn : Value} {gs : List Gt} {vg : Value} {m m' : List Int} {vm vm' : Value} {w w2 : World} (h : BS Wb B nb b2 inp xn vn gs vg m vm w)
    (ho : w2.ownsRow b2 3 1 vm' m'.length (ints m')) (hb : Below b2 w w2) (hg : w.grownBy w2 vm.ownBlock) : BS Wb B nb b2 inp xn vn gs vg m' vm' w2 :=
  ⟨blk_below hb h.hB h.blk, own_mono h.n h.hn hb, (Chg.of_grown hg).own h.g (fun k hk hs => own_ty h.m h.g (by decide) hs hk), ho, h.kp.trans (Kp.of_below hb), h.hB, h.hn, Nat.le_trans h.hs hb.size⟩

theorem BS.setAll {Wb : World} {B nb b2 : Nat} {inp : Int} {xn : List Int} {vn : Value} {gs gs' : List Gt} {vg vg' : Value} {m : List Int} {vm : Value} {w : World} (h : BS Wb B nb b2 inp xn vn gs vg m vm w)
    (hg : w.ownsRow b2 24 2 vg' gs'.length (gcells gs')) : BS Wb B nb b2 inp xn vn gs' vg' m vm ((((w.setCell ⟨B, 0, none⟩ (.int .i64 inp)).setCell ⟨B, 1, none⟩ vn).setCell ⟨B, 2, none⟩ vg').setCell ⟨B, 3, none⟩ (.slice none 0 0)) := by
  have e1 := own_tyb h.n h.blk (by decide)
  have e2 := own_tyb hg h.blk (by decide)
  have e3 := own_tyb h.m h.blk (by decide)
  refine ⟨by simpa using blk_set (o := 3) (v := .slice none 0 0) (blk_set (o := 2) (v := vg') (blk_set (o := 1) (v := vn) (blk_set (o := 0) (v := .int .i64 inp) h.blk))), own_set_ne (own_set_ne (own_set_ne (own_set_ne h.n e1 _) e1 _) e1 _) e1 _, own_set_ne (own_set_ne (own_set_ne (own_set_ne hg e2 _) e2 _) e2 _) e2 _, own_set_ne (own_set_ne (own_set_ne (own_set_ne h.m e3 _) e3 _) e3 _) e3 _, h.kp.trans (Kp.of_upd ((((Upd.set B 0 w _).trans (Upd.set B 1 _ _)).trans (Upd.set B 2 _ _)).trans (Upd.set B 3 _ _)) h.hs), h.hB, h.hn, by simpa using h.hs⟩

theorem BS.pushG {Wb : World} {B nb b2 : Nat} {inp : Int} {xn : List Int} {vn : Value} {gs gs' : List Gt} {vg vg' : Value} {m : List Int} {vm : Value} {w w2 : World} (h : BS Wb B nb b2 inp xn vn gs vg m vm w)
    (ho : w2.ownsRow b2 24 2 vg' gs'.length (gcells gs')) (hb : Below b2 w w2) (hg : w.grownBy w2 vg.ownBlock) : w2.heap[B]? = some (.cells #[.int .i64 inp, vn, vg, .slice none 0 0] 28 (0, 0)) ∧ BS Wb B nb b2 inp xn vn gs' vg' m vm (w2.setCell ⟨B, 2, none⟩ vg') := by
  have hk := blk_below hb h.hB h.blk
  have hn := own_mono h.n h.hn hb
  have hm := (Chg.of_grown hg).own h.m (fun k hk hs => own_ty h.m h.g (by decide) hk hs)
  exact ⟨hk, by simpa using blk_set (o := 2) (v := vg') hk, own_set_ne hn (own_tyb hn hk (by decide)) _, own_set_ne ho (own_tyb ho hk (by decide)) _, own_set_ne hm (own_tyb hm hk (by decide)) _, h.kp.trans ((Kp.of_below hb).trans (Kp.of_upd (Upd.set B 2 _ _) (Nat.le_trans h.hs hb.size))), h.hB, h.hn, by simpa using Nat.le_trans h.hs hb.size⟩

/-- The same, its outputs under way: the map stays, next is overwritten, outs grows. -/
structure NS (W0 : World) (B nb : Nat) (inp : Int) (xn : List Int) (vn : Value) (gs : List Gt) (vg : Value) (xo : List Int) (vo : Value) (m : List Int) (vm : Value) (w : World) : Prop where
  out : OutC w nb B inp xn gs xo vn vg vo
  m : w.ownsRow nb 3 1 vm m.length (ints m)
  nm : ∀ k, vm.ownBlock = some k → vn.ownBlock ≠ some k
  om : ∀ k, vm.ownBlock = some k → vo.ownBlock ≠ some k
  bel : Below nb W0 w
  hB : nb ≤ B
  hs : nb ≤ w.heap.size

theorem NS.below {W0 : World} {B nb : Nat} {inp : Int} {xn : List Int} {vn : Value} {gs : List Gt} {vg : Value} {xo : List Int} {vo : Value} {m : List Int} {vm : Value} {w w' : World} (h : NS W0 B nb inp xn vn gs vg xo vo m vm w) (hb : Below w.heap.size w w') : NS W0 B nb inp xn vn gs vg xo vo m vm w' :=
  ⟨h.out.below hb, own_below h.m hb, h.nm, h.om, h.bel.trans (hb.mono h.hs), h.hB, Nat.le_trans h.hs hb.size⟩

theorem NS.setN {W0 : World} {B nb : Nat} {inp : Int} {xn : List Int} {g n cap : Nat} {gs : List Gt} {vg : Value} {xo : List Int} {vo : Value} {m : List Int} {vm : Value} {w : World} (hn : xn.length = n) (h : NS W0 B nb inp xn (.slice (some ⟨g, 0, none⟩) n cap) gs vg xo vo m vm w) {j : Nat} {y : Int} :
    NS W0 B nb inp (xn.set j y) (.slice (some ⟨g, 0, none⟩) n cap) gs vg xo vo m vm (w.setCell ⟨g, j, none⟩ (.int .i64 y)) := by
  subst hn
  have hgk : (Value.slice (some ⟨g, 0, none⟩) xn.length cap).ownBlock = some g := rfl
  have hgb := own_blk h.out.n hgk
  obtain ⟨h1, h2⟩ := h.out.n.stored j (.int .i64 y)
  have hc := Chg.of_grown h2
  have e : (ints xn).set j (.int .i64 y) = ints (xn.set j y) := by simp [ints, List.map_set]
  rw [e] at h1
  have hBg : g ≠ B := fun e => own_tyb h.out.n h.out.blk (by decide) (by rw [hgk, e])
  refine ⟨⟨by rw [h2.block B (blk_lt h.out.blk) (by simp [Value.ownBlock]; omega)]; exact h.out.blk, by simpa using h1, hc.own h.out.g (fun k hk hs => own_ty h.out.n h.out.g (by decide) (hs.symm ▸ hgk) hk), hc.own h.out.o (fun k hk hs => h.out.ne k (hs.symm ▸ hgk) hk), h.out.ne⟩, hc.own h.m (fun k hk hs => h.nm k hk (hs.symm ▸ hgk)), h.nm, h.om, h.bel.setCell (p := ⟨g, j, none⟩) hgb.1 _, h.hB, by simpa using h.hs⟩

theorem NS.pushO {W0 : World} {B nb : Nat} {inp : Int} {xn : List Int} {vn : Value} {gs : List Gt} {vg : Value} {xo xo' : List Int} {vo vo' : Value} {m : List Int} {vm : Value} {w w2 : World} (h : NS W0 B nb inp xn vn gs vg xo vo m vm w)
    (hg : w.grownBy w2 vo.ownBlock) (ho : w2.ownsRow nb 3 1 vo' xo'.length (ints xo')) (hob : vo'.ownBlock = vo.ownBlock ∨ vo'.ownBlock = some w.heap.size) (hb : Below nb w w2) :
    w2.heap[B]? = some (.cells #[.int .i64 inp, vn, vg, vo] 28 (0, 0)) ∧ NS W0 B nb inp xn vn gs vg xo' vo' m vm (w2.setCell ⟨B, 3, none⟩ vo') := by
  obtain ⟨hk, h1⟩ := h.out.pushO hg ho hob
  have hm := (Chg.of_grown hg).own h.m (fun k hk hs => h.om k hk hs)
  refine ⟨hk, h1, own_set_ne hm (own_tyb hm hk (by decide)) _, h.nm, fun k hk2 hk3 => ?_, (h.bel.trans hb).setCell (p := ⟨B, 3, none⟩) h.hB _, h.hB, by simpa using Nat.le_trans h.hs hb.size⟩
  rcases hob with e | e
  · rw [e] at hk3; exact h.om k hk2 hk3
  · rw [e] at hk3; cases hk3; have := (own_blk h.m hk2).2; omega

def setV (u : List Bool) (l : Int) : List Bool := u.set (l / 2).toNat true

theorem setV_length (u : List Bool) (l : Int) : (setV u l).length = u.length := by simp [setV]

theorem setV_nat {u : List Bool} {l : Int} {q : Nat} (h : l / 2 = q) : setV u l = u.set q true := by unfold setV; rw [h, Int.toNat_natCast]

def rch0 (V : Nat) (roots : List Int) : List Bool := roots.foldl setV (List.replicate V false)

theorem rch0_length (V : Nat) (roots : List Int) : (rch0 V roots).length = V := by
  have : ∀ (u : List Bool), (roots.foldl setV u).length = u.length := by
    induction roots with
    | nil => intro u; rfl
    | cons r rs ih => intro u; simp only [List.foldl_cons]; rw [ih, setV_length]
  unfold rch0; rw [this]; simp

theorem rch0_snoc {V : Nat} {roots : List Int} {k : Nat} {l : Int} (h : roots[k]? = some l) : rch0 V (roots.take (k + 1)) = setV (rch0 V (roots.take k)) l := by
  unfold rch0; rw [List.take_add_one, h]; simp

def rchS (F : Nat) (gs : List Gt) (k : Nat) (u : List Bool) : List Bool :=
  match gs[k]? with
  | some g => if u.getD (F + k) false then setV (setV u g.a) g.b else u
  | none => u

theorem rchS_some {F : Nat} {gs : List Gt} {k : Nat} {u : List Bool} {g : Gt} {x : Bool} (hg : gs[k]? = some g) (hx : u[F + k]? = some x) : rchS F gs k u = if x then setV (setV u g.a) g.b else u := by
  have e : u.getD (F + k) false = x := by rw [List.getD_eq_getElem?_getD, hx]; rfl
  unfold rchS
  rw [hg]
  show (if u.getD (F + k) false then _ else _) = _
  rw [e]

def rchK (F : Nat) (gs : List Gt) : Nat → List Bool → List Bool
  | 0, u => u
  | k + 1, u => rchK F gs k (rchS F gs k u)

def rchL (c : Cir) : List Bool := rchK c.first.toNat c.gates c.gates.length (rch0 c.vars.toNat (c.next ++ c.outs))

theorem drop_setV {F : Nat} {u : List Bool} {l : Int} (h0 : 0 ≤ l) : (setV u l).drop F = markU F (u.drop F) l := by
  obtain ⟨q, hq⟩ : ∃ q : Nat, l / 2 = q := ⟨(l / 2).toNat, by omega⟩
  rw [setV_nat hq]
  by_cases hF : F ≤ q
  · rw [markU_yes (q := q - F) (by omega)]
    apply List.ext_getElem?
    intro i
    rw [List.getElem?_drop, List.getElem?_set, List.getElem?_set, List.getElem?_drop, List.length_drop]
    by_cases e : q = F + i
    · rw [if_pos e, if_pos (show q - F = i by omega)]
      by_cases hl : q < u.length
      · rw [if_pos hl, if_pos (by omega)]
      · rw [if_neg hl, if_neg (by omega)]
    · rw [if_neg e, if_neg (show ¬ q - F = i by omega)]
  · rw [markU_no (by omega)]
    apply List.ext_getElem?
    intro i
    rw [List.getElem?_drop, List.getElem?_drop, List.getElem?_set_ne (by omega)]

theorem drop_getD (u : List Bool) (F k : Nat) : (u.drop F).getD k false = u.getD (F + k) false := by
  rw [List.getD_eq_getElem?_getD, List.getD_eq_getElem?_getD, List.getElem?_drop]

theorem drop_rchS {F : Nat} {gs : List Gt} {k : Nat} {u : List Bool} (hg : ∀ g ∈ gs, 0 ≤ g.a ∧ 0 ≤ g.b) : (rchS F gs k u).drop F = usedS F gs k (u.drop F) := by
  unfold rchS usedS
  cases e : gs[k]? with
  | none => rfl
  | some g =>
    have h := hg g (List.mem_of_getElem? e)
    show (if u.getD (F + k) false then setV (setV u g.a) g.b else u).drop F = (if (u.drop F).getD k false then markU F (markU F (u.drop F) g.a) g.b else u.drop F)
    rw [drop_getD]
    split
    · rw [drop_setV h.2, drop_setV h.1]
    · rfl

theorem drop_rchK {F : Nat} {gs : List Gt} (hg : ∀ g ∈ gs, 0 ≤ g.a ∧ 0 ≤ g.b) : ∀ (k : Nat) (u : List Bool), (rchK F gs k u).drop F = usedK F gs k (u.drop F)
  | 0, _ => rfl
  | k + 1, u => by unfold rchK usedK; rw [drop_rchK hg k, drop_rchS hg]

theorem markU_comm (F : Int) (u : List Bool) (l m : Int) : markU F (markU F u l) m = markU F (markU F u m) l := by
  unfold markU
  by_cases h1 : F ≤ l / 2 <;> by_cases h2 : F ≤ m / 2
  · rw [if_pos h1, if_pos h2, if_pos h2, if_pos h1]
    by_cases e : (l / 2 - F).toNat = (m / 2 - F).toNat
    · rw [e]
    · exact List.set_comm _ _ e
  · simp [h1, h2]
  · simp [h1, h2]
  · simp [h1, h2]

theorem foldl_mark (F : Int) (l : Int) : ∀ (rs : List Int) (u : List Bool), rs.foldl (markU F) (markU F u l) = markU F (rs.foldl (markU F) u) l
  | [], _ => rfl
  | r :: rs, u => by simp only [List.foldl_cons]; rw [markU_comm F u l r, foldl_mark F l rs]

theorem foldl_swap (F : Int) : ∀ (xs ys : List Int) (u : List Bool), (xs ++ ys).foldl (markU F) u = (ys ++ xs).foldl (markU F) u
  | [], ys, u => by simp
  | x :: xs, ys, u => by
    rw [List.cons_append, List.foldl_cons, foldl_swap F xs ys, List.foldl_append, List.foldl_append, List.foldl_cons, foldl_mark F x ys u]

theorem drop_rch0 {F n : Nat} (roots : List Int) (h0 : ∀ l ∈ roots, 0 ≤ l) : (rch0 (F + n) roots).drop F = used0 F n roots := by
  have : ∀ (u : List Bool), (roots.foldl setV u).drop F = roots.foldl (markU F) (u.drop F) := by
    induction roots with
    | nil => intro u; rfl
    | cons r rs ih =>
      intro u
      simp only [List.foldl_cons]
      rw [ih (fun l hl => h0 l (by simp [hl])), drop_setV (h0 r (by simp))]
  unfold rch0 used0
  rw [this, List.drop_replicate]
  congr 2
  omega

theorem rchL_drop {c : Cir} (hv : c.wide) : (rchL c).drop c.first.toNat = usedL c := by
  have hl := hv.lim
  obtain ⟨F, hF⟩ : ∃ F : Nat, c.first = F := ⟨c.first.toNat, by have := hl.1; unfold Cir.first; omega⟩
  have hV : c.vars.toNat = F + c.gates.length := by
    have : c.vars = c.first + c.gates.length := rfl
    omega
  have hg : ∀ g ∈ c.gates, 0 ≤ g.a ∧ 0 ≤ g.b := fun g hg => by
    obtain ⟨i, hi⟩ := List.mem_iff_getElem?.1 hg
    have := gatesP_at hv.gates hi
    exact ⟨this.1.1, this.2.1⟩
  unfold rchL usedL
  rw [hF, Int.toNat_natCast, drop_rchK hg, hV, drop_rch0 _ (fun l hl => by
    rcases List.mem_append.1 hl with h | h
    · exact (hv.next l h).1
    · exact (hv.outs l h).1)]
  congr 1
  exact foldl_swap _ _ _ _

theorem rchL_get {c : Cir} (hv : c.wide) (k : Nat) : (rchL c)[c.first.toNat + k]? = (usedL c)[k]? := by
  rw [← rchL_drop hv, List.getElem?_drop]

/-! The program's reached. -/

set_option maxRecDepth 100000 in
set_option maxHeartbeats 3200000 in
theorem reached_any (b : Nat) (sn sg so : Option Addr) (cn cg co : Nat) (c : Cir) (w : World) (h : CirAt w b c.inp (.slice sn c.next.length cn) (.slice sg c.gates.length cg) (.slice so c.outs.length co)) (hn : Sl w sn (ints c.next)) (hg : Sl w sg (gcells c.gates)) (ho : Sl w so (ints c.outs)) (hv : c.wide) :
    Calls Try.prog 72 #[.pointer (some ⟨b, 0, none⟩)] w fun e w' => ∃ U, e = .returned (.slice (some ⟨U, 0, none⟩) c.vars.toNat c.vars.toNat) ∧ w'.heap[U]? = some (.cells (bools (rchL c)).toArray 4 (0, 0)) ∧ w.heap.size ≤ U ∧ Below w.heap.size w w' := by
  have HBl : Hid (b < w.heap.size) := World.block_lt_of_cell? w _ h.h0
  obtain ⟨q1, q2, q3, q4, q5⟩ := id hv.lim
  obtain ⟨F, hF⟩ : ∃ F : Nat, 1 + c.inp + (c.next.length : Int) = F := ⟨(1 + c.inp + (c.next.length : Int)).toNat, by omega⟩
  obtain ⟨n, hnn⟩ : ∃ n, n = c.gates.length := ⟨_, rfl⟩
  obtain ⟨V, hV⟩ : ∃ V, V = F + n := ⟨_, rfl⟩
  have hF8 : F ≤ 8 := by omega
  have hn14 : n ≤ 120 := by omega
  have hV22 : V ≤ 130 := by omega
  have eV : c.vars = (V : Int) := by unfold Cir.vars; omega
  have eVn : c.vars.toNat = V := by rw [eV, Int.toNat_natCast]
  have eF : c.first.toNat = F := by rw [show c.first = (F : Int) from hF, Int.toNat_natCast]
  obtain ⟨roots, hro⟩ : ∃ roots, roots = c.next ++ c.outs := ⟨_, rfl⟩
  obtain ⟨L, hL⟩ : ∃ L, L = c.next.length + c.outs.length := ⟨_, rfl⟩
  have hL6 : L ≤ 6 := by omega
  have hrl : roots.length = L := by rw [hro, hL]; simp
  have HRI : Hid (ints c.next ++ ints c.outs = ints roots) := (by rw [hro, ints_append] : ints c.next ++ ints c.outs = ints roots)
  have HRU : Hid (rchL c = rchK F c.gates n (rch0 V roots)) := (by unfold rchL; rw [eF, eVn, hnn, hro] : rchL c = rchK F c.gates n (rch0 V roots))
  have HLT : Hid (∀ l, l ∈ roots → 0 ≤ l ∧ l / 2 < (V : Int)) := fun l hl => by
    rw [hro] at hl
    have : litP l c.vars := by
      rcases List.mem_append.1 hl with h | h
      · exact hv.next l h
      · exact hv.outs l h
    obtain ⟨x, y⟩ := this
    omega
  have HGT : Hid (∀ (i : Nat) (g : Gt), c.gates[i]? = some g → (0 ≤ g.a ∧ g.a / 2 < (V : Int)) ∧ 0 ≤ g.b ∧ g.b / 2 < (V : Int)) := fun i g hg => by
    have hlt := (List.getElem?_eq_some_iff.1 hg).1
    obtain ⟨⟨x, y⟩, z, t⟩ := gatesP_at hv.gates hg
    have : c.first = (F : Int) := hF
    omega
  have HB : Hid (∀ W, Below w.heap.size w W → CirAt W b c.inp (.slice sn c.next.length cn) (.slice sg n cg) (.slice so c.outs.length co) ∧ Sl W sn (ints c.next) ∧ Sl W sg (gcells c.gates) ∧ Sl W so (ints c.outs)) := fun W hb => by
    rw [hnn]
    exact ⟨⟨(hb.cell (p := ⟨b, 0, none⟩) HBl.out).trans h.h0, (hb.cell (p := ⟨b, 1, none⟩) HBl.out).trans h.h1, (hb.cell (p := ⟨b, 2, none⟩) HBl.out).trans h.h2, (hb.cell (p := ⟨b, 3, none⟩) HBl.out).trans h.h3⟩, hn.mono hb, hg.mono hb, ho.mono hb⟩
  rw [eVn]
  have HFF := Lib.hid (And.intro hF (And.intro hV (And.intro hL (And.intro hrl hnn))))
  clear h hn hg ho hv hF eV eVn eF hro hrl q4
  have hg14 : c.gates.length ≤ 1048576 := by omega
  clear hnn hV hL
  have hmk := fun w => mkBools w V (by omega)
  go_enter Try.func72, Try.ntmps72
  go_upto_region 2 with (go_at_call 38; ((with_reducible refine (vars_any _ _ _ _ _ _ _ _ _ _ (HB.out _ (Below.refl _ _)).1 (by omega) (by omega) (by omega)).mono ?_); rintro e w1 ⟨rfl, hq⟩; rw [show 1 + c.inp + (c.next.length : Int) + (n : Int) = (V : Int) by have h1 := HFF.out.1; have h2 := HFF.out.2.1; omega]; have H1 := Lib.hid (hq.below w.heap.size); clear hq))
  obtain ⟨U, hU⟩ : ∃ U, U = w1.heap.size := ⟨_, rfl⟩
  have hb1 := H1.out.alloc H1.out.size (.cells (bools (List.replicate V false)).toArray 4)
  have hk1 := blk_new w1 (.cells (bools (List.replicate V false)).toArray 4)
  have hsz : w.heap.size ≤ U := by rw [hU]; exact H1.out.size
  rw [← hU] at hk1
  rw [← hU]
  clear hU hmk
  revert hb1 hk1
  generalize w1.alloc (.cells (bools (List.replicate V false)).toArray 4) = W1
  intro hb1 hk1
  have H2 := Lib.hid (And.intro hb1 hk1)
  clear hb1 hk1
  go_upto_region 3 with (go_at_call 71; ((refine (roots_any _ _ _ _ _ _ _ _ _ _ (HB.out _ H2.out.1).1 (HB.out _ H2.out.1).2.1 (HB.out _ H2.out.1).2.2.2 (by omega) (by omega)).mono ?_); rintro e w2 ⟨s5, c5, rfl, ho5, hq⟩; rw [HRI.out, ← HFF.out.2.2.1] at ho5; rw [← HFF.out.2.2.1]; have H3 := Lib.hid (And.intro (own_base ho5 (show U + 1 ≤ W1.heap.size from blk_lt H2.out.2)) (And.intro (blk_below hq (blk_lt H2.out.2) H2.out.2) (H2.out.1.trans (hq.mono H2.out.1.size)))); clear ho5 hq))
  go_loopw [13] (fun s13 wr => ∃ k : Nat, k ≤ L ∧ s13 = .int .i64 k ∧ wr.ownsRow (U + 1) 3 1 (.slice s5 L c5) L (ints roots) ∧ wr.heap[U]? = some (.cells (bools (rch0 V (roots.take k))).toArray 4 (0, 0)) ∧ Below w.heap.size w wr) (fun s13 _ => L - (intOf s13).toNat)
  case atStart => exact ⟨0, Nat.zero_le _, rfl, H3.out.1, H3.out.2.1, H3.out.2.2⟩
  case round =>
    obtain ⟨k, hk, rfl, ho, hu, hb⟩ := hrel
    by_cases hlt : k < L
    · obtain ⟨l, hl⟩ := get_of_lt (l := roots) (k := k) (by rw [HFF.out.2.2.2.1]; exact hlt)
      obtain ⟨bb, off, rfl, hbw, y1⟩ := (own_sl ho).int (Below.refl _ _) hl
      obtain ⟨l0, l1⟩ := HLT.out l (List.mem_of_getElem? hl)
      obtain ⟨q, hq⟩ : ∃ q : Nat, l / 2 = q := ⟨(l / 2).toNat, by omega⟩
      have hqV : q < V := by omega
      have hss := rch0_snoc (V := V) hl
      obtain ⟨x, hx⟩ := get_of_lt (l := rch0 V (roots.take k)) (k := q) (by rw [rch0_length]; exact hqV)
      have y2 := bools_cell hu hx
      have y3 : wr.frozen? ⟨U, q, none⟩ = false := blk_free hu
      have HR := Lib.hid (And.intro ho (And.intro hu (And.intro hb (And.intro hss hq))))
      clear ho hu hb hss hl hx
      go_wp2_with fail
      have hne : (Value.slice (some ⟨bb, off, none⟩) L c5).ownBlock ≠ some U := by intro e; have := (own_blk HR.out.1 e).1; omega
      go_roundw
      case rel => exact ⟨k + 1, by omega, by go_num, own_set_ne HR.out.1 hne _, by rw [HR.out.2.2.2.1, setV_nat HR.out.2.2.2.2]; exact bools_blk_set HR.out.2.1 q true, HR.out.2.2.1.setCell hsz _⟩
      case measure => simp [intOf]; try omega
    · obtain rfl : L = k := by omega
      have hu9 : wr.heap[U]? = some (.cells (bools (rch0 V roots)).toArray 4 (0, 0)) := by rw [List.take_of_length_le (by rw [HFF.out.2.2.2.1]; exact Nat.le_refl _)] at hu; exact hu
      have H8 := Lib.hid (And.intro hu9 hb)
      clear ho hu hb hu9
      obtain ⟨c0, c1, c2, c3⟩ := (HB.out _ H8.out.2).1
      go_upto_region 8 with fail
      clear c0 c1 c2 c3
      go_loopw [6] (fun s6 wz => ∃ (m : Nat) (u : List Bool), m ≤ n ∧ s6 = .int .i64 ((m : Int) - 1) ∧ u.length = V ∧ rchK F c.gates m u = rchL c ∧ wz.heap[U]? = some (.cells (bools u).toArray 4 (0, 0)) ∧ Below w.heap.size w wz) (fun s6 _ => (intOf s6 + 1).toNat)
      case atStart => exact ⟨n, rch0 V roots, Nat.le_refl _, by first | rfl | go_num, rch0_length _ _, by rw [HRU.out], H8.out.1, H8.out.2⟩
      case round =>
        obtain ⟨m, u, hm, rfl, hul, huk, hu, hb⟩ := hrel
        by_cases hm0 : 0 < m
        · obtain ⟨i, hi⟩ : ∃ i : Nat, (m : Int) - 1 = i := ⟨m - 1, by omega⟩
          obtain rfl : m = i + 1 := by omega
          rw [hi]
          clear hi hm0
          have hin : i < n := by omega
          obtain ⟨g, hg⟩ := get_of_lt (l := c.gates) (k := i) (by rw [← HFF.out.2.2.2.2]; exact hin)
          obtain ⟨p, hp⟩ : ∃ p : Nat, p = F + i := ⟨_, rfl⟩
          obtain ⟨x, hx⟩ := get_of_lt (l := u) (k := p) (by have := HFF.out.2.1; omega)
          obtain ⟨⟨a0, a1⟩, b0, b1⟩ := HGT.out i g hg
          have hst := rchS_some (F := F) hg (by rw [← hp]; exact hx)
          obtain ⟨bb, off, rfl, hbw, z1, z2⟩ := (HB.out _ hb).2.2.1.gate (Below.refl _ _) hg
          have hxc := bools_cell hu hx
          have HX := Lib.hid (And.intro hul (And.intro huk (And.intro hst (And.intro hu (And.intro hb hg)))))
          have HZ : Hid (∀ W, Below w.heap.size w W → (∃ d0 : True, W.cell? ⟨b, 2, none⟩ = some (.slice (some ⟨bb, off, none⟩) n cg)) ∧ W.cell? ⟨bb, off + i * 2, none⟩ = some (.int .i64 g.a) ∧ W.cell? ⟨bb, off + i * 2 + 1, none⟩ = some (.int .i64 g.b)) := fun W hW => by
            obtain ⟨b', off', e', -, z1', z2'⟩ := (HB.out W hW).2.2.1.gate (Below.refl _ _) hg
            cases e'
            exact ⟨⟨trivial, (HB.out W hW).1.h2⟩, z1', z2'⟩
          have hFi : (F : Int) + (i : Int) = (p : Int) := by omega
          have hpV : p < V := by have := HFF.out.2.1; omega
          obtain ⟨qa, hqa⟩ : ∃ qa : Nat, g.a / 2 = qa := ⟨(g.a / 2).toNat, by omega⟩
          obtain ⟨qb, hqb⟩ : ∃ qb : Nat, g.b / 2 = qb := ⟨(g.b / 2).toNat, by omega⟩
          have hqaV : qa < V := by omega
          have hqbV : qb < V := by omega
          obtain ⟨xa, hxa⟩ := get_of_lt (l := u) (k := qa) (by omega)
          obtain ⟨xb, hxb⟩ := get_of_lt (l := setV u g.a) (k := qb) (by rw [setV_length]; omega)
          have ya := bools_cell hu hxa
          have ya2 : wr.frozen? ⟨U, qa, none⟩ = false := blk_free hu
          have HQ := Lib.hid (And.intro hqa (And.intro hqb hxb))
          clear hul huk hst hu hb hg hx z1 z2 hxa hxb hqb hp
          obtain ⟨⟨-, d2⟩, d3, d4⟩ := HZ.out _ HX.out.2.2.2.2.1
          cases x
          · clear ya ya2 d2 d3 d4 hqa
            go_wp2_with (go_at_call 33; ((with_reducible refine (firstGate_any _ _ _ _ _ _ _ _ (HB.out _ HX.out.2.2.2.2.1).1 (by omega) (by omega)).mono ?_); rintro e w2 ⟨rfl, n2, rfl⟩; rw [HFF.out.1]))
            go_roundw
            case rel => exact ⟨i, u, by omega, by first | rfl | go_num, HX.out.1, by rw [← HX.out.2.1]; show rchK F c.gates i u = rchK F c.gates i (rchS F c.gates i u); rw [HX.out.2.2.1]; rfl, blk_below (below_n (Below.refl _ _) _) (blk_lt HX.out.2.2.2.1) HX.out.2.2.2.1, below_n HX.out.2.2.2.2.1 _⟩
            case measure => simp [intOf]; try omega
          · go_upto_region 12 with (go_at_call 33; ((with_reducible refine (firstGate_any _ _ _ _ _ _ _ _ (HB.out _ HX.out.2.2.2.2.1).1 (by omega) (by omega)).mono ?_); rintro e w2 ⟨rfl, n2, rfl⟩; rw [HFF.out.1]))
            have hu2 : ((wr.drewN n2).setCell ⟨U, qa, none⟩ (.bool true)).heap[U]? = some (.cells (bools (setV u g.a)).toArray 4 (0, 0)) := by
              rw [setV_nat HQ.out.1]
              exact bools_blk_set (blk_below (below_n (Below.refl _ _) _) (blk_lt HX.out.2.2.2.1) HX.out.2.2.2.1) qa true
            have hb2 : Below w.heap.size w ((wr.drewN n2).setCell ⟨U, qa, none⟩ (.bool true)) := (below_n HX.out.2.2.2.2.1 n2).setCell hsz _
            clear ya ya2 d2 d3 d4 hqa hxc
            revert hu2 hb2
            generalize (wr.drewN n2).setCell ⟨U, qa, none⟩ (.bool true) = W5
            intro hu2 hb2
            have yb := bools_cell hu2 HQ.out.2.2
            have yb2 : W5.frozen? ⟨U, qb, none⟩ = false := blk_free hu2
            obtain ⟨⟨-, d2⟩, d3, d4⟩ := HZ.out _ hb2
            have hqb := HQ.out.2.1
            have H5 := Lib.hid (And.intro hu2 hb2)
            clear hu2 hb2
            go_wp2_with fail
            go_roundw
            case rel => exact ⟨i, setV (setV u g.a) g.b, by omega, by first | rfl | go_num, by rw [setV_length, setV_length]; exact HX.out.1, by rw [← HX.out.2.1]; show rchK F c.gates i _ = rchK F c.gates i (rchS F c.gates i u); rw [HX.out.2.2.1]; rfl, by rw [setV_nat (l := g.b) HQ.out.2.1]; exact bools_blk_set H5.out.1 qb true, H5.out.2.setCell hsz _⟩
            case measure => simp [intOf]; try omega
        · obtain rfl : m = 0 := by omega
          have e0 : rchL c = u := huk.symm
          have HR := Lib.hid (And.intro e0 (And.intro hu hb))
          clear hul huk hu hb e0
          go_wp2_with fail
          go_ret
          exact ⟨U, rfl, by rw [HR.out.1]; exact HR.out.2.1, hsz, HR.out.2.2⟩

/-! A map from gates to their literals, made by the call. -/

def Gt.agg (x : Gt) : Value := .agg #[.int .i64 x.a, .int .i64 x.b]

theorem und_gt : ∃ fs, Try.prog.underlying 24 = some (.struct fs) ∧ ∀ (e : Bool) (x : Gt) (w : World), (Instr.checkKey e 10000 24 x.agg).run Try.prog w = .ok () w := by
  refine ⟨_, Try.underlying24, fun e x w => ?_⟩
  suffices h : ∀ n : Nat, (Instr.checkKey e (n + 1 + 1) 24 x.agg).run Try.prog w = .ok () w from h 9998
  intro n
  unfold Gt.agg
  simp [Instr.checkKey, run_underlying Try.underlying24, run_underlying Try.underlying3, part, isAgg, go_sem]

theorem gt_ext {x y : Gt} (h1 : x.a = y.a) (h2 : x.b = y.b) : x = y := by cases x; cases y; simp_all

theorem equal_gt (x y : Gt) (w : World) : (Op.equal 24 x.agg y.agg).run Try.prog w = .ok (decide (x = y)) w := by
  have e : (decide (x = y)) = (decide (x.a = y.a) && decide (x.b = y.b)) := by
    rw [Bool.eq_iff_iff]
    simp only [Bool.and_eq_true, decide_eq_true_eq]
    exact ⟨fun h => by rw [h]; exact ⟨rfl, rfl⟩, fun h => gt_ext h.1 h.2⟩
  rw [e]
  unfold Op.equal Op.maxDepth Gt.agg
  go_simp
  by_cases h1 : x.a = y.a <;> by_cases h2 : x.b = y.b <;> simp [h1, h2]

def gtOf : Value → Gt
  | .agg cs => ⟨intOf (cs.getD 0 undef), intOf (cs.getD 1 undef)⟩
  | _ => ⟨0, 0⟩

theorem gtOf_agg (x : Gt) : gtOf x.agg = x := rfl

def entsG (F : Nat) : List Gt → Nat → List (Value × Value)
  | [], _ => []
  | x :: xs, i => (x.agg, .int .i64 (2 * ((F : Int) + (i : Int)))) :: entsG F xs (i + 1)

theorem entsG_app (F : Nat) (Ks : List Gt) (x : Gt) : ∀ i, entsG F (Ks ++ [x]) i = entsG F Ks i ++ [(x.agg, .int .i64 (2 * ((F : Int) + ((i + Ks.length : Nat) : Int))))] := by
  induction Ks with
  | nil => intro i; simp [entsG]
  | cons y ys ih =>
    intro i
    show (_ :: entsG F (ys ++ [x]) (i + 1)) = _
    rw [ih (i + 1)]
    simp [entsG]
    omega

theorem fk_entsG {F : Nat} {x : Gt} : ∀ {Ks : List Gt} {es : List MapEntry} {i : Nat} (j : Nat), es.map (fun e => (e.key, e.val)) = entsG F Ks i →
    fk (fun v => decide (x = gtOf v)) es j = (fndG Ks x i).map fun k => (j + (k - i), Value.int .i64 (2 * ((F : Int) + (k : Int))))
  | [], [], _, _, _ => rfl
  | [], _ :: _, _, _, h => by simp [entsG] at h
  | _ :: _, [], _, _, h => by simp [entsG] at h
  | y :: ys, e :: es, i, j, h => by
    simp only [List.map_cons, entsG, List.cons.injEq, Prod.mk.injEq] at h
    obtain ⟨⟨h1, h2⟩, h3⟩ := h
    have ih := fk_entsG (F := F) (x := x) (Ks := ys) (es := es) (i := i + 1) (j + 1) h3
    unfold fk fndG
    rw [h1, gtOf_agg]
    by_cases he : x = y
    · rw [if_pos (by simpa using he), if_pos he.symm, h2]; simp
    · rw [if_neg (by simpa using he), if_neg (fun e => he e.symm), ih]
      cases hf : fndG ys x (i + 1) with
      | none => rfl
      | some k =>
        have := (fndG_at hf).1
        simp only [Option.map_some, Option.some.injEq, Prod.mk.injEq, and_true]; omega

theorem entsG_key {F : Nat} {Ks : List Gt} : ∀ {i : Nat} {p : Value × Value}, p ∈ entsG F Ks i → ∃ y : Gt, p.1 = y.agg := by
  induction Ks with
  | nil => intro i p h; cases h
  | cons y ys ih =>
    intro i p h
    rcases List.mem_cons.1 h with rfl | h
    · exact ⟨y, rfl⟩
    · exact ih h

/-- Block b is a map that holds exactly the gates Ks, with the literals of variables from F on. -/
def MapG (F : Nat) (w : World) (b : Nat) (Ks : List Gt) : Prop :=
  ∃ es clock, w.heap[b]? = some (.map es clock) ∧ es.toList.map (fun e => (e.key, e.val)) = entsG F Ks 0

theorem MapG.key {F : Nat} {es : List MapEntry} {Ks : List Gt} (h : es.map (fun e => (e.key, e.val)) = entsG F Ks 0) : ∀ e ∈ es, ∃ y : Gt, e.key = y.agg := by
  intro e he
  have : (e.key, e.val) ∈ entsG F Ks 0 := by rw [← h]; exact List.mem_map.2 ⟨e, he, rfl⟩
  exact entsG_key this

theorem mapg_lookup {F : Nat} {w : World} {b : Nat} {Ks : List Gt} (h : MapG F w b Ks) (x : Gt) :
    (Instr.lookup 87 (.map (some b)) x.agg true).run Try.prog w = .ok (match fndG Ks x 0 with
      | some i => .tuple #[.int .i64 (2 * ((F : Int) + (i : Int))), .bool true]
      | none => .tuple #[.int .i64 0, .bool false]) w := by
  obtain ⟨es, clock, hb, hm⟩ := h
  obtain ⟨fs, hu, hc⟩ := und_gt
  have hk := MapG.key hm
  have hr := run_lookup_map (P := Try.prog) (w := w) (T := 87) (K := 24) (E := 3) Try.underlying87 hu hb (k := x.agg) (p := fun v => decide (x = gtOf v)) (z := .int .i64 0) (by kernel_rfl) (fun e => hc e x w)
    (fun e he => by obtain ⟨y, h1⟩ := hk e he; rw [h1]; exact equal_gt x y w) true
  rw [hr, fk_entsG (x := x) 0 hm]
  cases fndG Ks x 0 with
  | none => rfl
  | some k => rfl

theorem mapg_update {F : Nat} {w : World} {b : Nat} {Ks : List Gt} (h : MapG F w b Ks) (x : Gt) (hx : fndG Ks x 0 = none) :
    ∃ w', (Instr.mapUpdate 87 (.map (some b)) x.agg (.int .i64 (2 * ((F : Int) + (Ks.length : Int))))).run Try.prog w = .ok () w' ∧ MapG F w' b (Ks ++ [x]) ∧ w.grownBy w' (some b) ∧ w'.heap.size = w.heap.size := by
  obtain ⟨es, clock, hb, hm⟩ := h
  obtain ⟨fs, hu, hc⟩ := und_gt
  have hk := MapG.key hm
  have hr := run_update_new (P := Try.prog) (w := w) (T := 87) (K := 24) (E := 3) Try.underlying87 hu hb (k := x.agg) (v := .int .i64 (2 * ((F : Int) + (Ks.length : Int)))) (p := fun v => decide (x = gtOf v)) (fun e => hc e x w)
    (fun e he => by obtain ⟨y, h1⟩ := hk e he; rw [h1]; exact equal_gt x y w) (by rw [fk_entsG (x := x) 0 hm, hx]; rfl)
  have hlt := blk_lt hb
  refine ⟨_, hr, ⟨_, _, by simp [hlt]; exact ⟨rfl, rfl⟩, by simp [hm, entsG_app]⟩, ⟨rfl, rfl, rfl, by simp, fun k hk1 hk2 => ?_⟩, by simp⟩
  have : b ≠ k := fun e => hk2 (by rw [e])
  simp [this]

theorem MapG.new (F : Nat) (w : World) : MapG F (w.alloc (.map #[] 0)) w.heap.size [] := ⟨#[], 0, blk_new _ _, rfl⟩

theorem MapG.below {F : Nat} {w w' : World} {b : Nat} {Ks : List Gt} (h : MapG F w b Ks) (hb : Below w.heap.size w w') : MapG F w' b Ks := by
  obtain ⟨es, clock, h1, h2⟩ := h
  exact ⟨es, clock, blk_below hb (blk_lt h1) h1, h2⟩

theorem MapG.lt {F : Nat} {w : World} {b : Nat} {Ks : List Gt} (h : MapG F w b Ks) : b < w.heap.size := by
  obtain ⟨es, clock, h1, h2⟩ := h; exact blk_lt h1

theorem mapg_nocell {F : Nat} {w : World} {b : Nat} {Ks : List Gt} (h : MapG F w b Ks) {cs : Array Value} {t : TypeId} {fz : Nat × Nat} : w.heap[b]? ≠ some (.cells cs t fz) := by
  obtain ⟨es, clock, h1, _⟩ := h
  rw [h1]; intro e; cases e

theorem own_nomapg {F : Nat} {w : World} {base : Nat} {e : TypeId} {size : Nat} {v : Value} {n : Nat} {xs : List Value} (h : w.ownsRow base e size v n xs) {b : Nat} {Ks : List Gt} (hm : MapG F w b Ks) : v.ownBlock ≠ some b := by
  intro hb
  rcases h.2 with ⟨rfl, _⟩ | ⟨g, cap, cur, rfl, _, hg, _⟩
  · cases hb
  · cases hb; exact mapg_nocell hm hg

end Go.Proofs.Ytjecchljhdfjdaa
