import Derived.Test.YtdcjiclonjillaaOB
import Derived.Test.YtdcjiclonjillaaV2
import Derived.Test.YtdcjiclonjillaaD3
namespace Go.Proofs.Ytdcjiclonjillaa
set_option linter.unusedVariables false
set_option linter.unusedSimpArgs false
open Go.RowKit

/-! l3Used: the gates that something depends on. -/

theorem markU_no {F : Int} {u : List Bool} {l : Int} (h : ¬ F ≤ l / 2) : markU F u l = u := by unfold markU; rw [if_neg h]
theorem markU_yes {F : Int} {u : List Bool} {l : Int} {q : Nat} (h : l / 2 - F = q) : markU F u l = u.set q true := by
  unfold markU; rw [if_pos (by omega), h, Int.toNat_natCast]

/-- After j of a gate's two operands. -/
def uJ (F : Int) (u : List Bool) (x : Bool) (a b : Int) : Nat → List Bool
  | 0 => u
  | 1 => if x then markU F u a else u
  | _ => if x then markU F (markU F u a) b else u
theorem usedS_eq {F : Int} {gs : List Gt} {u : List Bool} {k : Nat} {g : Gt} {x : Bool} (hg : gs[k]? = some g) (hx : u[k]? = some x) : usedS F gs k u = uJ F u x g.a g.b 2 := by
  have e : u.getD k false = x := by rw [List.getD_eq_getElem?_getD, hx]; rfl
  unfold usedS uJ
  rw [hg]
  show (if u.getD k false then _ else _) = _
  rw [e]
  rfl
theorem uJ_length {F : Int} {u : List Bool} {x : Bool} {a b : Int} {j : Nat} : (uJ F u x a b j).length = u.length := by
  unfold uJ
  split
  · rfl
  · split
    · rw [markU_length]
    · rfl
  · split
    · rw [markU_length, markU_length]
    · rfl

set_option maxRecDepth 100000 in
set_option maxHeartbeats 6400000 in
theorem l3Used_any (v : Value) (c : Cir) (w : World) (h : CirV w v c) (hv : c.wide) :
    Calls Try.prog 86 #[v] w fun e w' => ∃ s cap, e = .returned (.slice s c.gates.length cap) ∧ Sl w' s (bools (usedL c)) ∧ Below w.heap.size w w' := by
  have HV := Lib.hid hv
  obtain ⟨i0, i1, n3, g14, o3⟩ := id hv.lim
  have HG := Lib.hid h
  obtain ⟨sn, cn, sg, cg, so, co, rfl, -, -, -, -, -, -⟩ := h
  have HS0 : Hid (∀ W, Below w.heap.size w W → Sl W sn (ints c.next) ∧ Sl W sg (gcells c.gates) ∧ Sl W so (ints c.outs)) := fun W hW => by
    obtain ⟨sn', cn', sg', cg', so', co', e, h1, h2, h3, -⟩ := HG.out.mono hW
    simp only [Value.agg.injEq, Array.mk.injEq, List.cons.injEq, Value.slice.injEq, and_true, true_and] at e
    obtain ⟨⟨rfl, rfl⟩, ⟨rfl, rfl⟩, rfl, rfl⟩ := e
    exact ⟨h1, h2, h3⟩
  clear hv
  obtain ⟨W0, hW0⟩ : ∃ W0, W0 = w.alloc (.cells #[.int .i64 c.inp, .slice sn c.next.length cn, .slice sg c.gates.length cg, .slice so c.outs.length co] 28) := ⟨_, rfl⟩
  obtain ⟨A, hA⟩ : ∃ A, A = w.heap.size := ⟨_, rfl⟩
  have z1 : W0.heap.size = A + 1 := by rw [hW0, hA]; simp
  have z2 : W0.heap[A]? = some (.cells #[.int .i64 c.inp, .slice sn c.next.length cn, .slice sg c.gates.length cg, .slice so c.outs.length co] 28 (0, 0)) := by rw [hW0, hA]; exact blk_new w _
  have z4 : Below w.heap.size w W0 := by rw [hW0]; exact (Below.refl _ _).alloc (Nat.le_refl _) _
  have HW := Lib.hid (And.intro hW0 (And.intro hA z1))
  obtain ⟨F, hF⟩ : ∃ F : Nat, 1 + c.inp + (c.next.length : Int) = F := ⟨(1 + c.inp + (c.next.length : Int)).toNat, by omega⟩
  have hF8 : F ≤ 8 := by omega
  have HB : Hid (∀ W, Below W0.heap.size W0 W → (∀ o, W.cell? ⟨A, o, none⟩ = #[Value.int .i64 c.inp, .slice sn c.next.length cn, .slice sg c.gates.length cg, .slice so c.outs.length co][o]?) ∧ Below w.heap.size w W) := fun W hW => ⟨(blk_all (blk_below hW (by omega) z2)).1, z4.trans (hW.mono z4.size)⟩
  clear hW0 hA z1 z2 z4
  have HFF := Lib.hid hF
  have HLT : Hid (∀ l, (l ∈ c.outs ++ c.next) → 0 ≤ l ∧ l / 2 < (F : Int) + c.gates.length) := fun l hl => by
    have eV : c.vars = 1 + c.inp + c.next.length + c.gates.length := rfl
    have : litP l c.vars := by
      rcases List.mem_append.1 hl with h | h
      · exact HV.out.outs l h
      · exact HV.out.next l h
    obtain ⟨a, b⟩ := this
    have := HFF.out
    omega
  have HGT : Hid (∀ (i : Nat) (g : Gt), c.gates[i]? = some g → (0 ≤ g.a ∧ g.a / 2 < (F : Int) + c.gates.length) ∧ 0 ≤ g.b ∧ g.b / 2 < (F : Int) + c.gates.length) := fun i g hg => by
    have eF : c.first = 1 + c.inp + c.next.length := rfl
    have hlt := (List.getElem?_eq_some_iff.1 hg).1
    obtain ⟨⟨a, b⟩, d, e⟩ := gatesP_at HV.out.gates hg
    have := HFF.out
    omega
  have HU : Hid (usedL c = usedK F c.gates c.gates.length (used0 F c.gates.length (c.outs ++ c.next))) := by
    show usedL c = _
    unfold usedL
    rw [show c.first = (F : Int) from HFF.out]
  obtain ⟨roots, hro⟩ : ∃ roots, roots = c.outs ++ c.next := ⟨_, rfl⟩
  have hrl : roots.length = c.outs.length + c.next.length := by rw [hro]; simp
  have hr6 : roots.length ≤ 6 := by omega
  have hrI : ints c.outs ++ ints c.next = ints roots := by rw [hro, ints_append]
  rw [← hro] at HLT HU
  have HRO := Lib.hid (And.intro hrl hrI)
  clear hro hrl hrI hF
  obtain ⟨n, hn⟩ : ∃ n, n = c.gates.length := ⟨_, rfl⟩
  have hn14 : n ≤ 120 := by omega
  have hmk := fun w => mkBools w n (by omega)
  rw [← hn] at HB HLT HGT HU HW ⊢
  have HN := Lib.hid hn
  clear hn g14
  go_enter Try.func86, Try.ntmps86
  go_upto_region 1 with fail
  rw [← HW.out.1, ← HW.out.2.1]
  have cb := (HB.out _ (Below.refl _ _)).1
  go_upto_region 2 with (go_at_call 44; ((with_reducible refine (l1First_any _ _ _ _ _ _ _ (by omega) (by omega)).mono ?_); rintro e w1 ⟨rfl, hq⟩; rw [HFF.out]; have H1 := Lib.hid hq; clear hq cb; have cb := (HB.out _ H1.out).1))
  go_upto_region 3 with fail
  obtain ⟨U, hU⟩ : ∃ U, U = w1.heap.size := ⟨_, rfl⟩
  have hb1 := H1.out.alloc H1.out.size (.cells (bools (List.replicate n false)).toArray 4)
  have hk1 := blk_new w1 (.cells (bools (List.replicate n false)).toArray 4)
  have hz1 : A < U := by have h1 := H1.out.size; have h2 := HW.out.2.2; omega
  have hz2 : (w1.alloc (.cells (bools (List.replicate n false)).toArray 4)).heap.size = U + 1 := by rw [hU]; simp
  rw [← hU] at hk1
  rw [← hU]
  clear hU hmk cb H1
  revert hb1 hk1 hz2
  generalize w1.alloc (.cells (bools (List.replicate n false)).toArray 4) = W1
  intro hb1 hk1 hz2
  have H1 := Lib.hid (And.intro hb1 (And.intro hk1 hz2))
  clear hb1 hk1 hz2
  go_cut [5] from 16 to 22 (fun s5 wx => ∃ (s : Option Addr) (cp : Nat), s5 = .slice s roots.length cp ∧ wx.ownsRow W1.heap.size 3 1 (.slice s roots.length cp) roots.length (ints roots) ∧ Below W1.heap.size W1 wx)
  case first =>
    refine wp_region_T (fun w' => ∀ o, w'.cell? ⟨A, o, none⟩ = #[Value.int .i64 c.inp, .slice sn c.next.length cn, .slice sg n cg, .slice so c.outs.length co][o]?) (.q 1 (.q 2 (.q 4 (.q 5 (.e 0 (.e 3 (.e 6 (.q 7 .nil)))))))) (by kernel_rfl) (by kernel_rfl) (by kernel_rfl) (HB.out _ H1.out.1.drew).1 ?_
    have hd := (Below.refl W1.heap.size W1).drew
    revert hd
    generalize W1.drew = Wd
    intro hd
    have HD := Lib.hid hd
    clear hd
    repeat (first | (refine ordt_s (o := ?_) ?_ ?_ ?_; rotate_left 1; (focus ((simp only [List.getElem?_toArray, List.getElem?_cons_succ, List.getElem?_cons_zero]) <;> rfl)); (focus rfl); simp only [Act.put, List.setIfInBounds_toArray, List.set_cons_zero, List.set_cons_succ]) | (refine ordt_q (o := ?_) (v := ?_) ?_ ?_ ?_ ?_; rotate_left 2; (focus ((simp only [List.getElem?_toArray, List.getElem?_cons_succ, List.getElem?_cons_zero]) <;> rfl)); (focus rfl); (focus (intro w' hS; (try dsimp only at hS); go_split_ands; go_simp; (try (with_reducible rfl)))); simp only [Act.put, List.setIfInBounds_toArray, List.set_cons_zero, List.set_cons_succ]))
    refine ordt_e ?_
    (refine op_e (o := ?_) ?_ ?_ (fun K hK => ?_); rotate_left 1; (focus ((simp only [List.getElem?_toArray, List.getElem?_cons_succ, List.getElem?_cons_zero]) <;> rfl)); (focus rfl); go_simp)
    have hb := HD.out.alloc HD.out.size (.cells #[] 3)
    have hown0 : World.ownsRow (Wd.alloc (.cells #[] 3)) W1.heap.size 3 1 (.slice (some ⟨Wd.heap.size, 0, none⟩) 0 0) 0 [] := own_of_blk (size := 1) (n := 0) (cur := #[]) (blk_new Wd _) HD.out.size (by simp) (by unfold maxLen; omega)
    refine hK.out _ _ (HB.out _ (H1.out.1.trans (hb.mono H1.out.1.size))).1 ?_
    clear hK K
    have H2 := Lib.hid (And.intro hown0 hb)
    clear hown0 hb
    (try simp only [Act.put, List.setIfInBounds_toArray, List.set_cons_zero, List.set_cons_succ])
    repeat (first | (refine ordt_s (o := ?_) ?_ ?_ ?_; rotate_left 1; (focus ((simp only [List.getElem?_toArray, List.getElem?_cons_succ, List.getElem?_cons_zero]) <;> rfl)); (focus rfl); simp only [Act.put, List.setIfInBounds_toArray, List.set_cons_zero, List.set_cons_succ]) | (refine ordt_q (o := ?_) (v := ?_) ?_ ?_ ?_ ?_; rotate_left 2; (focus ((simp only [List.getElem?_toArray, List.getElem?_cons_succ, List.getElem?_cons_zero]) <;> rfl)); (focus rfl); (focus (intro w' hS; (try dsimp only at hS); go_split_ands; go_simp; (try (with_reducible rfl)))); simp only [Act.put, List.setIfInBounds_toArray, List.set_cons_zero, List.set_cons_succ]))
    refine ordt_e ?_
    (refine op_e (o := ?_) ?_ ?_ (fun K hK => ?_); rotate_left 1; (focus ((simp only [List.getElem?_toArray, List.getElem?_cons_succ, List.getElem?_cons_zero]) <;> rfl)); (focus rfl))
    refine wp_app (.tmp 16) (.tmp 18) rfl elem_int H2.out.1 rfl rfl (by simp) (HS0.out _ (HB.out _ (H1.out.1.trans (H2.out.2.mono H1.out.1.size))).2).2.2 (ints_one _) c.outs.length (by omega) (ints c.outs) (by simp) (by unfold maxLen; omega) (by omega) H2.out.2.size ?_
    intro s6 c6 w6 h6 hb6 _ _
    have hq6 := H2.out.2.trans hb6
    refine hK.out _ _ (HB.out _ (H1.out.1.trans (hq6.mono H1.out.1.size))).1 ?_
    clear hK K
    have H6 := Lib.hid (And.intro h6 hq6)
    clear h6 hb6 hq6
    (try simp only [Act.put, List.setIfInBounds_toArray, List.set_cons_zero, List.set_cons_succ])
    repeat (first | (refine ordt_s (o := ?_) ?_ ?_ ?_; rotate_left 1; (focus ((simp only [List.getElem?_toArray, List.getElem?_cons_succ, List.getElem?_cons_zero]) <;> rfl)); (focus rfl); simp only [Act.put, List.setIfInBounds_toArray, List.set_cons_zero, List.set_cons_succ]) | (refine ordt_q (o := ?_) (v := ?_) ?_ ?_ ?_ ?_; rotate_left 2; (focus ((simp only [List.getElem?_toArray, List.getElem?_cons_succ, List.getElem?_cons_zero]) <;> rfl)); (focus rfl); (focus (intro w' hS; (try dsimp only at hS); go_split_ands; go_simp; (try (with_reducible rfl)))); simp only [Act.put, List.setIfInBounds_toArray, List.set_cons_zero, List.set_cons_succ]))
    refine ordt_e ?_
    (refine op_e (o := ?_) ?_ ?_ (fun K hK => ?_); rotate_left 1; (focus ((simp only [List.getElem?_toArray, List.getElem?_cons_succ, List.getElem?_cons_zero]) <;> rfl)); (focus rfl))
    refine wp_app (.tmp 19) (.tmp 21) rfl elem_int H6.out.1 rfl rfl (by simp) (HS0.out _ (HB.out _ (H1.out.1.trans (H6.out.2.mono H1.out.1.size))).2).1 (ints_one _) roots.length (by rw [HRO.out.1]) (ints roots) HRO.out.2 (by unfold maxLen; omega) (by omega) H6.out.2.size ?_
    intro s7 c7 w7 h7 hb7 _ _
    have hq7 := H6.out.2.trans hb7
    refine hK.out _ _ (HB.out _ (H1.out.1.trans (hq7.mono H1.out.1.size))).1 ?_
    clear hK K
    have H7 := Lib.hid (And.intro h7 hq7)
    clear h7 hb7 hq7
    (try simp only [Act.put, List.setIfInBounds_toArray, List.set_cons_zero, List.set_cons_succ])
    repeat (first | (refine ordt_s (o := ?_) ?_ ?_ ?_; rotate_left 1; (focus ((simp only [List.getElem?_toArray, List.getElem?_cons_succ, List.getElem?_cons_zero]) <;> rfl)); (focus rfl); simp only [Act.put, List.setIfInBounds_toArray, List.set_cons_zero, List.set_cons_succ]) | (refine ordt_q (o := ?_) (v := ?_) ?_ ?_ ?_ ?_; rotate_left 2; (focus ((simp only [List.getElem?_toArray, List.getElem?_cons_succ, List.getElem?_cons_zero]) <;> rfl)); (focus rfl); (focus (intro w' hS; (try dsimp only at hS); go_split_ands; go_simp; (try (with_reducible rfl)))); simp only [Act.put, List.setIfInBounds_toArray, List.set_cons_zero, List.set_cons_succ]))
    refine ordt_nil ?_
    go_wp2_with fail
    go_meet
    exact ⟨s7, c7, rfl, H7.out.1, H7.out.2⟩
  case rest =>
    obtain ⟨s5, c5, rfl, ho5, hb5⟩ := hcut
    have H5 := Lib.hid (And.intro (own_base ho5 (show U + 1 ≤ W1.heap.size by have := H1.out.2.2; omega)) (And.intro (blk_below hb5 (blk_lt H1.out.2.1) H1.out.2.1) (H1.out.1.trans (hb5.mono H1.out.1.size))))
    clear ho5 hb5
    obtain ⟨L, hL⟩ : ∃ L, L = roots.length := ⟨_, rfl⟩
    rw [← hL] at hr6 H5 ⊢
    have HL := Lib.hid hL
    clear hL
    go_upto_region 5 with fail
    go_loopw [6] (fun s6 wr => ∃ k : Nat, k ≤ L ∧ s6 = .int .i64 k ∧ wr.ownsRow (U + 1) 3 1 (.slice s5 L c5) L (ints roots) ∧ wr.heap[U]? = some (.cells (bools (used0 F n (roots.take k))).toArray 4 (0, 0)) ∧ Below U wc wr ∧ wc.heap.size ≤ wr.heap.size) (fun s6 _ => L - (intOf s6).toNat)
    case atStart => exact ⟨0, Nat.zero_le _, rfl, H5.out.1, H5.out.2.1, Below.refl _ _, Nat.le_refl _⟩
    case round =>
      obtain ⟨k, hk, rfl, ho, hu, hb, hsz⟩ := hrel
      by_cases hlt : k < L
      · obtain ⟨l, hl⟩ := get_of_lt (l := roots) (k := k) (by have := HL.out; omega)
        obtain ⟨b, off, rfl, hbw, y1⟩ := (own_sl ho).int (Below.refl _ _) hl
        obtain ⟨l0, l1⟩ := HLT.out l (List.mem_of_getElem? hl)
        have hss := used0_snoc (F := F) (n := n) hl
        have hlen := used0_length F n (roots.take k)
        have HR := Lib.hid (And.intro ho (And.intro hu (And.intro hb (And.intro hsz hss))))
        by_cases hFl : (F : Int) ≤ l / 2
        · obtain ⟨q, hq⟩ : ∃ q : Nat, l / 2 - (F : Int) = q := ⟨(l / 2 - (F : Int)).toNat, by omega⟩
          have hqn : q < n := by omega
          obtain ⟨x, hx⟩ := get_of_lt (l := used0 F n (roots.take k)) (k := q) (by omega)
          have y2 := bools_cell hu hx
          have y3 : wr.frozen? ⟨U, q, none⟩ = false := blk_free hu
          have HQ := Lib.hid hq
          clear ho hu hb hss hlen hl hx
          go_wp2_with fail
          have hne : (Value.slice (some ⟨b, off, none⟩) L c5).ownBlock ≠ some U := by intro e; have := (own_blk HR.out.1 e).1; omega
          go_roundw
          case rel => exact ⟨k + 1, by omega, by go_num, own_set_ne HR.out.1 hne _, by rw [HR.out.2.2.2.2, markU_yes HQ.out]; exact bools_blk_set HR.out.2.1 q true, HR.out.2.2.1.setCell (Nat.le_refl _) _, by simpa using HR.out.2.2.2.1⟩
          case measure => simp [intOf]; omega
        · clear ho hu hb hss hlen hl
          go_wp2_with fail
          go_roundw
          case rel => exact ⟨k + 1, by omega, by go_num, HR.out.1, by rw [HR.out.2.2.2.2, markU_no hFl]; exact HR.out.2.1, HR.out.2.2.1, HR.out.2.2.2.1⟩
          case measure => simp [intOf]; omega
      · obtain rfl : k = L := by omega
        have hu9 : wr.heap[U]? = some (.cells (bools (used0 F n roots)).toArray 4 (0, 0)) := by rw [List.take_of_length_le (by have := HL.out; omega)] at hu; exact hu
        have H8 := Lib.hid (And.intro hu9 (And.intro (show Below W0.heap.size W0 wr from H5.out.2.2.trans (hb.mono (by have := HW.out.2.2; omega))) (show U < wr.heap.size from blk_lt hu)))
        clear ho hu hb hu9 hsz
        have cb := (HB.out _ H8.out.2.1).1
        obtain ⟨ws, rfl⟩ : ∃ ws, ws = wr := ⟨_, rfl⟩
        go_upto_region 10 with fail
        go_loopw [7] (fun s7 wz => ∃ (m : Nat) (u : List Bool), m ≤ n ∧ s7 = .int .i64 ((m : Int) - 1) ∧ u.length = n ∧ usedK F c.gates m u = usedL c ∧ wz.heap[U]? = some (.cells (bools u).toArray 4 (0, 0)) ∧ Below U ws wz) (fun s7 _ => (intOf s7 + 1).toNat)
        case atStart => exact ⟨n, used0 F n roots, Nat.le_refl _, by first | rfl | go_num, used0_length _ _ _, by rw [HU.out], H8.out.1, Below.refl _ _⟩
        case round =>
          obtain ⟨m, u, hm, rfl, hul, huk, hu, hb⟩ := hrel
          obtain ⟨wt, rfl⟩ : ∃ wt, wt = wr := ⟨_, rfl⟩
          have hUA : Below W0.heap.size W0 wt := H8.out.2.1.trans (hb.mono (by have := HW.out.2.2; omega))
          have cb := (HB.out _ hUA).1
          by_cases hm0 : 0 < m
          · obtain ⟨i, hi⟩ : ∃ i : Nat, (m : Int) - 1 = i := ⟨m - 1, by omega⟩
            obtain rfl : m = i + 1 := by omega
            rw [hi]
            clear hi hm0
            have hin : i < n := by omega
            obtain ⟨g, hg⟩ := get_of_lt (l := c.gates) (k := i) (by have := HN.out; omega)
            obtain ⟨x, hx⟩ := get_of_lt (l := u) (k := i) (by omega)
            obtain ⟨⟨a0, a1⟩, b0, b1⟩ := HGT.out i g hg
            have hst := usedS_eq (F := F) hg hx
            obtain ⟨b, off, rfl, hbw, y1, y2⟩ := (HS0.out _ (HB.out _ hUA).2).2.1.gate (Below.refl _ _) hg
            obtain ⟨pa, hpa⟩ : ∃ pa, g.a / 2 = pa := ⟨_, rfl⟩
            obtain ⟨pb, hpb⟩ : ∃ pb, g.b / 2 = pb := ⟨_, rfl⟩
            have HX := Lib.hid hx
            have HUL := Lib.hid hul
            have HUK := Lib.hid (And.intro huk hst)
            have HU0 := Lib.hid (And.intro hu (And.intro hb hUA))
            have HG1 := Lib.hid hg
            clear hx hul huk hst hu hb hUA hg
            go_upto_region 12 with fail
            go_cut [8] from 53 to 67 (fun s8 wx => ∃ O : Nat, s8 = .slice (some ⟨O, 0, none⟩) 2 2 ∧ wx.heap[O]? = some (.cells #[.int .i64 pa, .int .i64 pb] 3 (0, 0)) ∧ U < O ∧ Below wt.heap.size wt wx)
            case first =>
              refine wp_region_T (fun w' => (∀ o, w'.cell? ⟨A, o, none⟩ = #[Value.int .i64 c.inp, .slice sn c.next.length cn, .slice (some ⟨b, off, none⟩) n cg, .slice so c.outs.length co][o]?) ∧ w'.cell? ⟨b, off + i * 2, none⟩ = some (.int .i64 g.a) ∧ w'.cell? ⟨b, off + i * 2 + 1, none⟩ = some (.int .i64 g.b)) (.q 0 (.q 1 (.q 2 (.q 3 (.q 4 (.q 5 (.q 6 (.q 7 (.q 8 (.q 9 (.q 10 (.q 11 (.q 12 (.q 13 (.e 14 (.q 15 .nil)))))))))))))))) (by kernel_rfl) (by kernel_rfl) (by kernel_rfl) ⟨cb, y1, y2⟩ ?_
              have hd := (Below.refl wt.heap.size wt).drew
              revert hd
              generalize wt.drew = wd
              intro hd
              have HD := Lib.hid hd
              clear hd
              have hqa : g.a.tdiv 2 = pa := by rw [Int.tdiv_eq_ediv_of_nonneg a0]; exact hpa
              have hqb : g.b.tdiv 2 = pb := by rw [Int.tdiv_eq_ediv_of_nonneg b0]; exact hpb
              have hwa : IntKind.i64.wrap pa = pa := IntWalk.i64_in _ ⟨by omega, by omega⟩
              have hwb : IntKind.i64.wrap pb = pb := IntWalk.i64_in _ ⟨by omega, by omega⟩
              repeat (first | (refine ordt_s (o := ?_) ?_ ?_ ?_; rotate_left 1; (focus ((simp only [List.getElem?_toArray, List.getElem?_cons_succ, List.getElem?_cons_zero]) <;> rfl)); (focus rfl); simp only [Act.put, List.setIfInBounds_toArray, List.set_cons_zero, List.set_cons_succ]) | (refine ordt_q (o := ?_) (v := ?_) ?_ ?_ ?_ ?_; rotate_left 2; (focus ((simp only [List.getElem?_toArray, List.getElem?_cons_succ, List.getElem?_cons_zero]) <;> rfl)); (focus rfl); (focus (intro w' hS; (try dsimp only at hS); go_split_ands; go_simp; (try (with_reducible rfl)))); simp only [Act.put, List.setIfInBounds_toArray, List.set_cons_zero, List.set_cons_succ]))
              refine ordt_e ?_
              (refine op_e (o := ?_) ?_ ?_ (fun K hK => ?_); rotate_left 1; (focus ((simp only [List.getElem?_toArray, List.getElem?_cons_succ, List.getElem?_cons_zero]) <;> rfl)); (focus rfl); go_simp)
              have hk1 := blk_new wd (.cells #[.int .i64 pa, .int .i64 pb] 3)
              have hb1 := HD.out.alloc HD.out.size (.cells #[.int .i64 pa, .int .i64 pb] 3)
              refine hK.out _ _ ⟨(HB.out _ (HU0.out.2.2.trans (hb1.mono HU0.out.2.2.size))).1, by rw [hb1.cell (by exact hbw)]; exact y1, by rw [hb1.cell (by exact hbw)]; exact y2⟩ ?_
              clear hK K
              have H3 := Lib.hid (And.intro hk1 hb1)
              clear hk1 hb1
              (try simp only [Act.put, List.setIfInBounds_toArray, List.set_cons_zero, List.set_cons_succ])
              repeat (first | (refine ordt_s (o := ?_) ?_ ?_ ?_; rotate_left 1; (focus ((simp only [List.getElem?_toArray, List.getElem?_cons_succ, List.getElem?_cons_zero]) <;> rfl)); (focus rfl); simp only [Act.put, List.setIfInBounds_toArray, List.set_cons_zero, List.set_cons_succ]) | (refine ordt_q (o := ?_) (v := ?_) ?_ ?_ ?_ ?_; rotate_left 2; (focus ((simp only [List.getElem?_toArray, List.getElem?_cons_succ, List.getElem?_cons_zero]) <;> rfl)); (focus rfl); (focus (intro w' hS; (try dsimp only at hS); go_split_ands; go_simp; (try (with_reducible rfl)))); simp only [Act.put, List.setIfInBounds_toArray, List.set_cons_zero, List.set_cons_succ]))
              refine ordt_nil ?_
              go_wp2_with fail
              go_meet
              exact ⟨_, rfl, H3.out.1, Nat.lt_of_lt_of_le (blk_lt HU0.out.1) HD.out.size, H3.out.2⟩
            case rest =>
              obtain ⟨O, rfl, hO, hUO, hb3⟩ := hcut
              have hu3 := blk_below hb3 (blk_lt HU0.out.1) HU0.out.1
              have H3 := Lib.hid (And.intro hO (And.intro hu3 hb3))
              have HP := Lib.hid (And.intro hpa hpb)
              rw [hpa] at a1
              rw [hpb] at b1
              have a2 : 0 ≤ pa := by omega
              have b2 : 0 ≤ pb := by omega
              clear hO hu3 hb3 hpa hpb cb y1 y2
              go_upto_region 14 with fail
              go_loopw [9] (fun s9 wY => ∃ j : Nat, j ≤ 2 ∧ s9 = .int .i64 j ∧ wY.heap[U]? = some (.cells (bools (uJ F u x g.a g.b j)).toArray 4 (0, 0)) ∧ wY.heap[O]? = some (.cells #[.int .i64 pa, .int .i64 pb] 3 (0, 0)) ∧ Below U wc wY ∧ wc.heap.size ≤ wY.heap.size) (fun s9 _ => 2 - (intOf s9).toNat)
              case atStart => exact ⟨0, by omega, rfl, H3.out.2.1, H3.out.1, Below.refl _ _, Nat.le_refl _⟩
              case round =>
                obtain ⟨j, hj, rfl, hu, hO, hb, hsz⟩ := hrel
                rcases (show j = 0 ∨ j = 1 ∨ j = 2 by omega) with rfl | rfl | rfl
                · cases x
                  · have y2 := bools_cell (p := i) (x := false) hu (by show (uJ F u false g.a g.b 0)[i]? = some false; exact HX.out)
                    have HR := Lib.hid (And.intro hu (And.intro hO (And.intro hb hsz)))
                    clear hu hO hb hsz
                    go_wp2_with fail
                    go_roundw
                    case rel => exact ⟨0 + 1, by omega, by first | rfl | go_num, HR.out.1, HR.out.2.1, HR.out.2.2.1, HR.out.2.2.2⟩
                    case measure => simp [intOf]
                  · have hxx : (uJ F u true g.a g.b 0)[i]? = some true := HX.out
                    have y2 := bools_cell (p := i) (x := true) hu hxx
                    have yO : wr.cell? ⟨O, 0, none⟩ = some (.int .i64 pa) := blk_cell hO
                    by_cases hFl : (F : Int) ≤ pa
                    · obtain ⟨q, hq⟩ : ∃ q : Nat, pa - (F : Int) = q := ⟨(pa - (F : Int)).toNat, by omega⟩
                      have hqn : q < n := by omega
                      obtain ⟨z, hzq⟩ := get_of_lt (l := uJ F u true g.a g.b 0) (k := q) (by rw [uJ_length, HUL.out]; exact hqn)
                      have y4 := bools_cell hu hzq
                      have y3 : wr.frozen? ⟨U, q, none⟩ = false := blk_free hu
                      have HQ := Lib.hid hq
                      have HR := Lib.hid (And.intro hu (And.intro hO (And.intro hb hsz)))
                      clear hu hO hb hsz hzq hxx
                      go_wp2_with fail
                      go_roundw
                      case rel => exact ⟨0 + 1, by omega, by first | rfl | go_num, (by have e : uJ F u true g.a g.b (0 + 1) = markU F u g.a := rfl; rw [e, markU_yes (by rw [HP.out.1]; exact HQ.out)]; exact bools_blk_set HR.out.1 q true), blk_set_ne (by omega) HR.out.2.1, HR.out.2.2.1.setCell (Nat.le_refl _) _, by simpa using HR.out.2.2.2⟩
                      case measure => simp [intOf]
                    · have HR := Lib.hid (And.intro hu (And.intro hO (And.intro hb hsz)))
                      clear hu hO hb hsz hxx
                      go_wp2_with fail
                      go_roundw
                      case rel => exact ⟨0 + 1, by omega, by first | rfl | go_num, (by have e : uJ F u true g.a g.b (0 + 1) = markU F u g.a := rfl; rw [e, markU_no (by rw [HP.out.1]; exact hFl)]; exact HR.out.1), HR.out.2.1, HR.out.2.2.1, HR.out.2.2.2⟩
                      case measure => simp [intOf]
                · cases x
                  · have y2 := bools_cell (p := i) (x := false) hu (by show (uJ F u false g.a g.b 1)[i]? = some false; exact HX.out)
                    have HR := Lib.hid (And.intro hu (And.intro hO (And.intro hb hsz)))
                    clear hu hO hb hsz
                    go_wp2_with fail
                    go_roundw
                    case rel => exact ⟨1 + 1, by omega, by first | rfl | go_num, HR.out.1, HR.out.2.1, HR.out.2.2.1, HR.out.2.2.2⟩
                    case measure => simp [intOf]
                  · have hxx : (uJ F u true g.a g.b 1)[i]? = some true := markU_keep HX.out
                    have y2 := bools_cell (p := i) (x := true) hu hxx
                    have yO : wr.cell? ⟨O, 1, none⟩ = some (.int .i64 pb) := blk_cell hO
                    by_cases hFl : (F : Int) ≤ pb
                    · obtain ⟨q, hq⟩ : ∃ q : Nat, pb - (F : Int) = q := ⟨(pb - (F : Int)).toNat, by omega⟩
                      have hqn : q < n := by omega
                      obtain ⟨z, hzq⟩ := get_of_lt (l := uJ F u true g.a g.b 1) (k := q) (by rw [uJ_length, HUL.out]; exact hqn)
                      have y4 := bools_cell hu hzq
                      have y3 : wr.frozen? ⟨U, q, none⟩ = false := blk_free hu
                      have HQ := Lib.hid hq
                      have HR := Lib.hid (And.intro hu (And.intro hO (And.intro hb hsz)))
                      clear hu hO hb hsz hzq hxx
                      go_wp2_with fail
                      go_roundw
                      case rel => exact ⟨1 + 1, by omega, by first | rfl | go_num, (by have e : uJ F u true g.a g.b (1 + 1) = markU F (markU F u g.a) g.b := rfl; rw [e, markU_yes (by rw [HP.out.2]; exact HQ.out)]; exact bools_blk_set HR.out.1 q true), blk_set_ne (by omega) HR.out.2.1, HR.out.2.2.1.setCell (Nat.le_refl _) _, by simpa using HR.out.2.2.2⟩
                      case measure => simp [intOf]
                    · have HR := Lib.hid (And.intro hu (And.intro hO (And.intro hb hsz)))
                      clear hu hO hb hsz hxx
                      go_wp2_with fail
                      go_roundw
                      case rel => exact ⟨1 + 1, by omega, by first | rfl | go_num, (by have e : uJ F u true g.a g.b (1 + 1) = markU F (markU F u g.a) g.b := rfl; rw [e, markU_no (by rw [HP.out.2]; exact hFl)]; exact HR.out.1), HR.out.2.1, HR.out.2.2.1, HR.out.2.2.2⟩
                      case measure => simp [intOf]
                · have hbb : Below U ws wr := (HU0.out.2.1.trans (H3.out.2.2.mono (by have := blk_lt HU0.out.1; omega))).trans hb
                  have HR := Lib.hid (And.intro hu hbb)
                  clear hu hO hb hsz hbb
                  go_wp2_with fail
                  go_roundw
                  case rel => exact ⟨i, uJ F u x g.a g.b 2, by omega, by first | rfl | go_num, by rw [uJ_length, HUL.out], by rw [← HUK.out.1, ← HUK.out.2]; rfl, HR.out.1, HR.out.2⟩
                  case measure => simp [intOf]; try omega
          · obtain rfl : m = 0 := by omega
            have hsl := Sl.toB hu
            have e0 : usedL c = u := huk.symm
            have HR := Lib.hid (And.intro hsl (And.intro e0 (HB.out _ hUA).2))
            clear hu hb huk hul hUA hsl e0
            go_wp2_with fail
            go_ret
            exact ⟨_, _, rfl, by rw [HR.out.2.1]; exact HR.out.1, HR.out.2.2⟩

/-! A circuit under reconstruction: its block, its slices, the map of variables. -/

theorem belowA (w : World) (o : Obj) : Below w.heap.size w (w.alloc o) := (Below.refl _ _).alloc (Nat.le_refl _) _
structure BS (Wb : World) (B nb b2 : Nat) (inp : Int) (xn : List Int) (vn : Value) (gs : List Gt) (vg : Value) (m : List Int) (vm : Value) (w : World) : Prop where
  blk : w.heap[B]? = some (.cells #[.int .i64 inp, vn, vg, .slice none 0 0] 28 (0, 0))
  n : w.ownsRow nb 3 1 vn xn.length (ints xn)
  g : w.ownsRow b2 24 2 vg gs.length (gcells gs)
  m : w.ownsRow b2 3 1 vm m.length (ints m)
  kp : Kp B b2 Wb w
  hB : B < b2
  hn : ∀ k, vn.ownBlock = some k → k < b2
  hs : b2 ≤ w.heap.size
theorem BS.below {Wb : World} {B nb b2 : Nat} {inp : Int} {xn : List Int} {vn : Value} {gs : List Gt} {vg : Value} {m : List Int} {vm : Value} {w w' : World} (h : BS Wb B nb b2 inp xn vn gs vg m vm w) (hb : Below w.heap.size w w') : BS Wb B nb b2 inp xn vn gs vg m vm w' :=
  ⟨blk_below hb (blk_lt h.blk) h.blk, own_below h.n hb, own_below h.g hb, own_below h.m hb, h.kp.trans (Kp.of_below (hb.mono h.hs)), h.hB, h.hn, Nat.le_trans h.hs hb.size⟩
theorem BS.cells {Wb : World} {B nb b2 : Nat} {inp : Int} {xn : List Int} {vn : Value} {gs : List Gt} {vg : Value} {m : List Int} {vm : Value} {w : World} (h : BS Wb B nb b2 inp xn vn gs vg m vm w) : (∀ o, w.cell? ⟨B, o, none⟩ = #[.int .i64 inp, vn, vg, .slice none 0 0][o]?) ∧ ∀ o, w.frozen? ⟨B, o, none⟩ = false := blk_all h.blk
theorem BS.pushM {Wb : World} {B nb b2 : Nat} {inp : Int} {xn : List Int} {vn : Value} {gs : List Gt} {vg : Value} {m m' : List Int} {vm vm' : Value} {w w2 : World} (h : BS Wb B nb b2 inp xn vn gs vg m vm w)
    (ho : w2.ownsRow b2 3 1 vm' m'.length (ints m')) (hb : Below b2 w w2) (hg : w.grownBy w2 vm.ownBlock) : BS Wb B nb b2 inp xn vn gs vg m' vm' w2 :=
  ⟨blk_below hb h.hB h.blk, own_mono h.n h.hn hb, (Chg.of_grown hg).own h.g (fun k hk hs => own_ty h.m h.g (by decide) hs hk), ho, h.kp.trans (Kp.of_below hb), h.hB, h.hn, Nat.le_trans h.hs hb.size⟩
theorem BS.setAll {Wb : World} {B nb b2 : Nat} {inp : Int} {xn : List Int} {vn : Value} {gs gs' : List Gt} {vg vg' : Value} {m : List Int} {vm : Value} {w : World} (h : BS Wb B nb b2 inp xn vn gs vg m vm w)
    (hg : w.ownsRow b2 24 2 vg' gs'.length (gcells gs')) : BS Wb B nb b2 inp xn vn gs' vg' m vm ((((w.setCell ⟨B, 0, none⟩ (.int .i64 inp)).setCell ⟨B, 1, none⟩ vn).setCell ⟨B, 2, none⟩ vg').setCell ⟨B, 3, none⟩ (.slice none 0 0)) := by
  have e1 := own_tyb h.n h.blk (by decide)
  have e2 := own_tyb hg h.blk (by decide)
  have e3 := own_tyb h.m h.blk (by decide)
  refine ⟨by simpa using blk_set (o := 3) (v := .slice none 0 0) (blk_set (o := 2) (v := vg') (blk_set (o := 1) (v := vn) (blk_set (o := 0) (v := .int .i64 inp) h.blk))), own_set_ne (own_set_ne (own_set_ne (own_set_ne h.n e1 _) e1 _) e1 _) e1 _, own_set_ne (own_set_ne (own_set_ne (own_set_ne hg e2 _) e2 _) e2 _) e2 _, own_set_ne (own_set_ne (own_set_ne (own_set_ne h.m e3 _) e3 _) e3 _) e3 _, h.kp.trans (Kp.of_upd ((((Upd.set B 0 w _).trans (Upd.set B 1 _ _)).trans (Upd.set B 2 _ _)).trans (Upd.set B 3 _ _)) h.hs), h.hB, h.hn, by simpa using h.hs⟩
theorem BS.pushG {Wb : World} {B nb b2 : Nat} {inp : Int} {xn : List Int} {vn : Value} {gs gs' : List Gt} {vg vg' : Value} {m : List Int} {vm : Value} {w w2 : World} (h : BS Wb B nb b2 inp xn vn gs vg m vm w)
    (ho : w2.ownsRow b2 24 2 vg' gs'.length (gcells gs')) (hb : Below b2 w w2) (hg : w.grownBy w2 vg.ownBlock) : w2.heap[B]? = some (.cells #[.int .i64 inp, vn, vg, .slice none 0 0] 28 (0, 0)) ∧ BS Wb B nb b2 inp xn vn gs' vg' m vm (w2.setCell ⟨B, 2, none⟩ vg') := by
  have hk := blk_below hb h.hB h.blk
  have hn := own_mono h.n h.hn hb
  have hm := (Chg.of_grown hg).own h.m (fun k hk hs => own_ty h.m h.g (by decide) hk hs)
  exact ⟨hk, by simpa using blk_set (o := 2) (v := vg') hk, own_set_ne hn (own_tyb hn hk (by decide)) _, own_set_ne ho (own_tyb ho hk (by decide)) _, own_set_ne hm (own_tyb hm hk (by decide)) _, h.kp.trans ((Kp.of_below hb).trans (Kp.of_upd (Upd.set B 2 _ _) (Nat.le_trans h.hs hb.size))), h.hB, h.hn, by simpa using Nat.le_trans h.hs hb.size⟩

/-- The same, its outputs under way: the map stays, next is overwritten, outs grows. -/
structure NS (W0 : World) (B nb : Nat) (inp : Int) (xn : List Int) (vn : Value) (gs : List Gt) (vg : Value) (xo : List Int) (vo : Value) (m : List Int) (vm : Value) (w : World) : Prop where
  out : OutC w nb B inp xn gs xo vn vg vo
  m : w.ownsRow nb 3 1 vm m.length (ints m)
  nm : ∀ k, vm.ownBlock = some k → vn.ownBlock ≠ some k
  om : ∀ k, vm.ownBlock = some k → vo.ownBlock ≠ some k
  bel : Below nb W0 w
  hB : nb ≤ B
  hs : nb ≤ w.heap.size
theorem NS.below {W0 : World} {B nb : Nat} {inp : Int} {xn : List Int} {vn : Value} {gs : List Gt} {vg : Value} {xo : List Int} {vo : Value} {m : List Int} {vm : Value} {w w' : World} (h : NS W0 B nb inp xn vn gs vg xo vo m vm w) (hb : Below w.heap.size w w') : NS W0 B nb inp xn vn gs vg xo vo m vm w' :=
  ⟨h.out.below hb, own_below h.m hb, h.nm, h.om, h.bel.trans (hb.mono h.hs), h.hB, Nat.le_trans h.hs hb.size⟩
theorem NS.setN {W0 : World} {B nb : Nat} {inp : Int} {xn : List Int} {g n cap : Nat} {gs : List Gt} {vg : Value} {xo : List Int} {vo : Value} {m : List Int} {vm : Value} {w : World} (hn : xn.length = n) (h : NS W0 B nb inp xn (.slice (some ⟨g, 0, none⟩) n cap) gs vg xo vo m vm w) {j : Nat} {y : Int} :
    NS W0 B nb inp (xn.set j y) (.slice (some ⟨g, 0, none⟩) n cap) gs vg xo vo m vm (w.setCell ⟨g, j, none⟩ (.int .i64 y)) := by
  subst hn
  have hgk : (Value.slice (some ⟨g, 0, none⟩) xn.length cap).ownBlock = some g := rfl
  have hgb := own_blk h.out.n hgk
  obtain ⟨h1, h2⟩ := h.out.n.stored j (.int .i64 y)
  have hc := Chg.of_grown h2
  have e : (ints xn).set j (.int .i64 y) = ints (xn.set j y) := by simp [ints, List.map_set]
  rw [e] at h1
  have hBg : g ≠ B := fun e => own_tyb h.out.n h.out.blk (by decide) (by rw [hgk, e])
  refine ⟨⟨by rw [h2.block B (blk_lt h.out.blk) (by simp [Value.ownBlock]; omega)]; exact h.out.blk, by simpa using h1, hc.own h.out.g (fun k hk hs => own_ty h.out.n h.out.g (by decide) (hs.symm ▸ hgk) hk), hc.own h.out.o (fun k hk hs => h.out.ne k (hs.symm ▸ hgk) hk), h.out.ne⟩, hc.own h.m (fun k hk hs => h.nm k hk (hs.symm ▸ hgk)), h.nm, h.om, h.bel.setCell (p := ⟨g, j, none⟩) hgb.1 _, h.hB, by simpa using h.hs⟩
theorem NS.pushO {W0 : World} {B nb : Nat} {inp : Int} {xn : List Int} {vn : Value} {gs : List Gt} {vg : Value} {xo xo' : List Int} {vo vo' : Value} {m : List Int} {vm : Value} {w w2 : World} (h : NS W0 B nb inp xn vn gs vg xo vo m vm w)
    (hg : w.grownBy w2 vo.ownBlock) (ho : w2.ownsRow nb 3 1 vo' xo'.length (ints xo')) (hob : vo'.ownBlock = vo.ownBlock ∨ vo'.ownBlock = some w.heap.size) (hb : Below nb w w2) :
    w2.heap[B]? = some (.cells #[.int .i64 inp, vn, vg, vo] 28 (0, 0)) ∧ NS W0 B nb inp xn vn gs vg xo' vo' m vm (w2.setCell ⟨B, 3, none⟩ vo') := by
  obtain ⟨hk, h1⟩ := h.out.pushO hg ho hob
  have hm := (Chg.of_grown hg).own h.m (fun k hk hs => h.om k hk hs)
  refine ⟨hk, h1, own_set_ne hm (own_tyb hm hk (by decide)) _, h.nm, fun k hk2 hk3 => ?_, (h.bel.trans hb).setCell (p := ⟨B, 3, none⟩) h.hB _, h.hB, by simpa using Nat.le_trans h.hs hb.size⟩
  rcases hob with e | e
  · rw [e] at hk3; exact h.om k hk2 hk3
  · rw [e] at hk3; cases hk3; have := (own_blk h.m hk2).2; omega

end Go.Proofs.Ytdcjiclonjillaa
