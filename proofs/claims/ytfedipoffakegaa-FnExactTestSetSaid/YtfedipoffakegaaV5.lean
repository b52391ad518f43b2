import Derived.Test.YtfedipoffakegaaV4
import Derived.Test.YtfedipoffakegaaA4
import Derived.Test.YtfedipoffakegaaL3
namespace Go.Proofs.Ytfedipoffakegaa
set_option linter.unusedVariables false
set_option linter.unusedSimpArgs false
open Go.RowKit

/-! Functions of variables: equal, opposite. The reference's walks. -/

def colV (c : Cir) (p : Nat) (x : Nat) : Bool := (evalV c (x : Int) (-1) false).getD p false
def eqAll (f g : Nat → Bool) (N : Nat) : Bool := (List.range N).all fun x => f x == g x
def neAll (f g : Nat → Bool) (N : Nat) : Bool := (List.range N).all fun x => f x != g x
theorem eqAll_succ (f g : Nat → Bool) (N : Nat) : eqAll f g (N + 1) = (eqAll f g N && (f N == g N)) := by simp [eqAll, List.range_succ]
theorem neAll_succ (f g : Nat → Bool) (N : Nat) : neAll f g (N + 1) = (neAll f g N && (f N != g N)) := by simp [neAll, List.range_succ]
def sameV (c : Cir) (p q : Nat) : Int := if eqAll (colV c p) (colV c q) (asgN c) then 1 else if neAll (colV c p) (colV c q) (asgN c) then -1 else 0
theorem beq_nbne (x y : Bool) : (x == y) = ((!x) != y) := by cases x <;> cases y <;> rfl
theorem bne_nbeq (x y : Bool) : (x != y) = ((!x) == y) := by cases x <;> cases y <;> rfl
theorem colV_get {c : Cir} {p x : Nat} {y : Bool} (h : (evalV c (x : Int) (-1) false)[p]? = some y) : colV c p x = y := by
  unfold colV; rw [List.getD_eq_getElem?_getD, h]; rfl
theorem Sl.bool2 {w wr : World} {s : Option Addr} {xs : List Bool} (h : Sl w s (bools xs)) (hbl : Below w.heap.size w wr) {j k : Nat} {x y : Bool} (hx : xs[j]? = some x) (hy : xs[k]? = some y) :
    ∃ b off, s = some ⟨b, off, none⟩ ∧ b < w.heap.size ∧ wr.cell? ⟨b, off + j, none⟩ = some (.bool x) ∧ wr.cell? ⟨b, off + k, none⟩ = some (.bool y) := by
  have hlt : j < xs.length := (List.getElem?_eq_some_iff.1 hx).1
  obtain ⟨b, off, rfl, hbw, hcs⟩ := h.at (k := j) (by simpa using hlt)
  exact ⟨b, off, rfl, hbw, by rw [hbl.cell (by exact hbw)]; exact hcs _ _ (bools_get hx), by rw [hbl.cell (by exact hbw)]; exact hcs _ _ (bools_get hy)⟩
theorem asgN_le {c : Cir} (h : c.valid) : 1 ≤ asgN c ∧ asgN c ≤ 128 := by
  obtain ⟨q1, q2, q3, q4, q5⟩ := h.lim
  unfold asgN
  exact ⟨Nat.pow_pos (by omega), Nat.le_trans (Nat.pow_le_pow_right (by omega) (show c.inp.toNat + c.next.length ≤ 7 by omega)) (by decide)⟩
theorem evalV_asg (c : Cir) (x : Int) (ni : Nat) (hi : c.inp = ni) : valsV (-1) false (false :: (bitsV x ni ++ bitsV (x / 2 ^ ni) c.next.length)) c.gates = evalV c x (-1) false := by
  rw [evalV_no]; unfold asgV; rw [hi]; simp

set_option maxRecDepth 100000 in
set_option maxHeartbeats 1600000 in
theorem l17Same_any (v : Value) (c : Cir) (p q : Nat) (w : World) (h : CirV w v c) (hv : c.valid) (hp : (p : Int) < c.vars) (hq : (q : Int) < c.vars) :
    Calls Try.prog 47 #[v, .int .i64 p, .int .i64 q] w fun e w' => e = .returned (.int .i64 (sameV c p q)) ∧ Below w.heap.size w w' := by
  have HC : Hid (∀ w', Below w.heap.size w w' → CirV w' v c) := fun w' hb => h.mono hb
  obtain ⟨sn, cn, sg, cg, so, co, rfl, h1, h2, h3, hl1, hl2, hl3⟩ := h
  obtain ⟨f1, f2, f3, f4⟩ := valid_first hv
  obtain ⟨q1, q2, q3, q4, q5⟩ := id hv.lim
  obtain ⟨n1, n2⟩ := asgN_le hv
  obtain ⟨ni, hni⟩ : ∃ ni : Nat, c.inp = ni := ⟨c.inp.toNat, by omega⟩
  obtain ⟨N, hN⟩ : ∃ N, N = asgN c := ⟨_, rfl⟩
  have eF : c.first = 1 + c.inp + c.next.length := rfl
  have n4 : ni ≤ 4 := by omega
  have p22 : p < 22 := by omega
  have q22 : q < 22 := by omega
  rw [← hN] at n1 n2
  have hsh : (2 : Int) ^ (ni + c.next.length) = (N : Int) := by rw [hN]; unfold asgN; rw [hni]; simp
  have hpV : p < (evalV c 0 (-1) false).length := by rw [evalV_length]; omega
  have hqV : q < (evalV c 0 (-1) false).length := by rw [evalV_length]; omega
  have hL : Below w.heap.size w (w.alloc (.cells #[.int .i64 c.inp, .slice sn c.next.length cn, .slice sg c.gates.length cg, .slice so c.outs.length co] 31)) := by go_grown
  have hNw := blk_new w (.cells #[.int .i64 c.inp, .slice sn c.next.length cn, .slice sg c.gates.length cg, .slice so c.outs.length co] 31)
  have HL := Lib.hid (And.intro hL hNw)
  have H := Lib.hid (And.intro hv (And.intro hni (And.intro hN (And.intro hpV (And.intro hqV hsh)))))
  have hwp : wrap64 (2 ^ (ni + c.next.length)) = (N : Int) := by rw [wrap_pow (by omega)]; exact hsh
  have hto : ((ni : Int) + (c.next.length : Int)).toNat = ni + c.next.length := by omega
  rw [hni] at HL HC ⊢
  clear h1 h2 h3 hv f1 f2 f3 f4 q1 q2 eF hN hp hq hni hpV hqV hL hNw hsh
  go_enter Try.func47, Try.ntmps47
  go_wp2_with fail
  revert HL
  generalize (w.alloc (.cells #[.int .i64 ni, .slice sn c.next.length cn, .slice sg c.gates.length cg, .slice so c.outs.length co] 31)) = W1
  intro HL
  go_loopw [7, 8, 9] (fun e o i wr => ∃ k : Nat, k ≤ N ∧ i = .int .i64 k ∧ e = .bool (eqAll (colV c p) (colV c q) k) ∧ o = .bool (neAll (colV c p) (colV c q) k) ∧ Below w.heap.size w wr ∧
      wr.heap[w.heap.size]? = some (.cells #[.int .i64 ni, .slice sn c.next.length cn, .slice sg c.gates.length cg, .slice so c.outs.length co] 31 (0, 0))) (fun _ _ i _ => N - (intOf i).toNat)
  case atStart => exact ⟨0, Nat.zero_le _, rfl, rfl, rfl, HL.out.1, HL.out.2⟩
  case round =>
    obtain ⟨k, hk, rfl, rfl, rfl, hbl, hblk⟩ := hrel
    have hcb := (blk_all hblk).1
    obtain ⟨E, hE⟩ : ∃ E, E = eqAll (colV c p) (colV c q) k := ⟨_, rfl⟩
    obtain ⟨O, hO⟩ : ∃ O, O = neAll (colV c p) (colV c q) k := ⟨_, rfl⟩
    rw [← hE, ← hO]
    have HR := Lib.hid (And.intro hbl (And.intro hblk (And.intro hE hO)))
    have hsl := blk_lt hblk
    clear hbl hblk hE hO
    by_cases hlt : k < N
    · have hkpw : (1 : Int) ≤ 2 ^ ni := by have : (0 : Int) < 2 ^ ni := Int.pow_pos (by decide); omega
      have d0 : 0 ≤ (k : Int) / 2 ^ ni := Int.ediv_nonneg (by omega) (by omega)
      have d1 : (k : Int) / 2 ^ ni ≤ 1000000 := Int.le_trans (Int.ediv_le_self _ (by omega)) (by omega)
      have hlen : (evalV c k (-1) false).length = (evalV c 0 (-1) false).length := by rw [evalV_length, evalV_length]
      obtain ⟨x, hx⟩ := get_of_lt (l := evalV c k (-1) false) (k := p) (by rw [hlen]; exact H.out.2.2.2.1)
      obtain ⟨y, hy⟩ := get_of_lt (l := evalV c k (-1) false) (k := q) (by rw [hlen]; exact H.out.2.2.2.2.1)
      have HX := Lib.hid (And.intro hx (And.intro hy hlen))
      clear hkpw hx hy hlen
      go_upto_region 6 with fail
      clear hwp hto
      go_cut [10] from 22 to 35 (fun v10 wx => ∃ s n cc, v10 = .slice s n cc ∧ n = (evalV c k (-1) false).length ∧ Sl wx s (bools (evalV c k (-1) false)) ∧ Below wr.heap.size wr wx)
      case first =>
        refine wp_region_T (fun w' => ∀ o, w'.cell? ⟨w.heap.size, o, none⟩ = #[Value.int .i64 ni, Value.slice sn c.next.length cn, Value.slice sg c.gates.length cg, Value.slice so c.outs.length co][o]?) (.q 0 (.q 1 (.q 2 (.q 3 (.q 4 (.q 5 (.q 6 (.q 7 (.q 9 (.q 10 (.q 11 (.e 8 (.e 12 (.e 13 (.q 14 .nil))))))))))))))) (by kernel_rfl) (by kernel_rfl) (by kernel_rfl) hcb ?_
        repeat (first | (refine ordt_s (o := ?_) ?_ ?_ ?_; rotate_left 1; (focus ((simp only [List.getElem?_toArray, List.getElem?_cons_succ, List.getElem?_cons_zero]) <;> rfl)); (focus rfl); simp only [Act.put, List.setIfInBounds_toArray, List.set_cons_zero, List.set_cons_succ]) | (refine ordt_q (o := ?_) (v := ?_) ?_ ?_ ?_ ?_; rotate_left 2; (focus ((simp only [List.getElem?_toArray, List.getElem?_cons_succ, List.getElem?_cons_zero]) <;> rfl)); (focus rfl); (focus (intro w' hS; (try dsimp only at hS); go_split_ands; go_simp; (try (with_reducible rfl)))); simp only [Act.put, List.setIfInBounds_toArray, List.set_cons_zero, List.set_cons_succ]))
        refine ordt_e ?_
        (refine op_e (o := ?_) ?_ ?_ (fun K hK => ?_); rotate_left 1; (focus ((simp only [List.getElem?_toArray, List.getElem?_cons_succ, List.getElem?_cons_zero]) <;> rfl)); (focus rfl); go_simp)
        refine (l4Bits_any _ _ _ d0 d1 (by omega)).mono ?_
        rintro e wa ⟨sa, ca, rfl, ha, hqa⟩
        have hba : Below wr.heap.size wr wa := (Below.refl _ _).drew.trans hqa
        refine hK.out _ _ (blk_all (blk_below hba hsl HR.out.2.1)).1 ?_
        clear hK K hqa
        have HA := Lib.hid (And.intro hba ha)
        have hsa := hba.size
        clear hba ha
        (try simp only [Act.put, List.setIfInBounds_toArray, List.set_cons_zero, List.set_cons_succ])
        refine ordt_e ?_
        (refine op_e (o := ?_) ?_ ?_ (fun K hK => ?_); rotate_left 1; (focus ((simp only [List.getElem?_toArray, List.getElem?_cons_succ, List.getElem?_cons_zero]) <;> rfl)); (focus rfl); go_simp)
        refine (l4Bits_any _ _ _ (by omega) (by omega) (by omega)).mono ?_
        rintro e wb ⟨sb, cb, rfl, hb, hqb⟩
        have hbb : Below wr.heap.size wr wb := HA.out.1.trans (hqb.mono hsa)
        refine hK.out _ _ (blk_all (blk_below hbb hsl HR.out.2.1)).1 ?_
        clear hK K
        have HB := Lib.hid (And.intro hbb (And.intro hb (HA.out.2.mono hqb)))
        have hsb := hbb.size
        clear hbb hb hqb
        (try simp only [Act.put, List.setIfInBounds_toArray, List.set_cons_zero, List.set_cons_succ])
        refine ordt_e ?_
        (refine op_e (o := ?_) ?_ ?_ (fun K hK => ?_); rotate_left 1; (focus ((simp only [List.getElem?_toArray, List.getElem?_cons_succ, List.getElem?_cons_zero]) <;> rfl)); (focus rfl); go_simp)
        refine (l2Values_any _ c sa sb ca cb (bitsV ((k : Int) / 2 ^ ni) c.next.length) (bitsV k ni) _ (HC.out _ (HR.out.1.trans (HB.out.1.mono HR.out.1.size))) H.out.1 HB.out.2.2 HB.out.2.1 (bitsV_length _ _) ni (bitsV_length _ _) H.out.2.1).mono ?_
        rintro e wd ⟨sd, nd, cd, rfl, hnd, hd, hqd⟩
        rw [evalV_asg c k ni H.out.2.1] at hnd hd
        have hbd : Below wr.heap.size wr wd := HB.out.1.trans (hqd.mono hsb)
        refine hK.out _ _ (blk_all (blk_below hbd hsl HR.out.2.1)).1 ?_
        clear hK K
        have HD := Lib.hid (And.intro hbd (And.intro hd hnd))
        clear hbd hd hqd hnd
        (try simp only [Act.put, List.setIfInBounds_toArray, List.set_cons_zero, List.set_cons_succ])
        repeat (first | (refine ordt_s (o := ?_) ?_ ?_ ?_; rotate_left 1; (focus ((simp only [List.getElem?_toArray, List.getElem?_cons_succ, List.getElem?_cons_zero]) <;> rfl)); (focus rfl); simp only [Act.put, List.setIfInBounds_toArray, List.set_cons_zero, List.set_cons_succ]) | (refine ordt_q (o := ?_) (v := ?_) ?_ ?_ ?_ ?_; rotate_left 2; (focus ((simp only [List.getElem?_toArray, List.getElem?_cons_succ, List.getElem?_cons_zero]) <;> rfl)); (focus rfl); (focus (intro w' hS; (try dsimp only at hS); go_split_ands; go_simp; (try (with_reducible rfl)))); simp only [Act.put, List.setIfInBounds_toArray, List.set_cons_zero, List.set_cons_succ]))
        refine ordt_nil ?_
        go_wp2_with fail
        go_meet
        exact ⟨sd, nd, cd, rfl, HD.out.2.2, HD.out.2.1, HD.out.1⟩
      case rest =>
        obtain ⟨s10, n10, c10, rfl, hn10, hs10, hb10⟩ := hcut
        obtain ⟨vb, off, rfl, hvb, z1, z2⟩ := hs10.bool2 (Below.refl _ _) HX.out.1 HX.out.2.1
        have hpn : p < n10 := by rw [hn10, HX.out.2.2]; exact H.out.2.2.2.1
        have hqn : q < n10 := by rw [hn10, HX.out.2.2]; exact H.out.2.2.2.2.1
        have hn22 : n10 ≤ 22 := by
          have h1 := H.out.2.1; have h2 := H.out.1.lim; unfold Cir.limits at h2
          rw [hn10, evalV_length]; omega
        have e1 := eqAll_succ (colV c p) (colV c q) k
        have e2 := neAll_succ (colV c p) (colV c q) k
        rw [← HR.out.2.2.1, colV_get HX.out.1, colV_get HX.out.2.1] at e1
        rw [← HR.out.2.2.2, colV_get HX.out.1, colV_get HX.out.2.1] at e2
        have HE := Lib.hid (And.intro e1 (And.intro e2 hb10))
        clear e1 e2 hb10 hs10 hn10 hvb hcb
        have hbE := HR.out.1.trans (HE.out.2.2.mono HR.out.1.size)
        have hnE := blk_below HE.out.2.2 hsl HR.out.2.1
        have HW := Lib.hid (And.intro hbE hnE)
        clear hbE hnE
        cases E <;> cases O
        all_goals
          go_wp2_with fail
          go_quiet (fail)
          go_wp2_with fail
          go_quiet (fail)
          go_wp2_with fail
          go_roundw
          case rel =>
            refine ⟨k + 1, by omega, by go_num, ?_, ?_, below_n HW.out.1 _, HW.out.2⟩
            · rw [HE.out.1]; simp <;> (cases x <;> cases y <;> rfl)
            · rw [HE.out.2.1]; simp <;> (cases x <;> cases y <;> rfl)
          case measure => simp [intOf]; omega
    · obtain rfl : k = N := by omega
      have hE := HR.out.2.2.1
      have hO := HR.out.2.2.2
      rw [H.out.2.2.1] at hE hO
      have hs : sameV c p q = if E then 1 else if O then -1 else 0 := by unfold sameV; rw [← hE, ← hO]
      have HS := Lib.hid hs
      clear hE hO hs
      cases E
      · cases O
        · go_wp2
          go_ret
          exact ⟨ret_int (by rw [HS.out]; rfl), HR.out.1⟩
        · go_wp2
          go_ret
          exact ⟨ret_int (by rw [HS.out]; rfl), HR.out.1⟩
      · go_wp2
        go_ret
        exact ⟨ret_int (by rw [HS.out]; rfl), HR.out.1⟩

end Go.Proofs.Ytfedipoffakegaa
