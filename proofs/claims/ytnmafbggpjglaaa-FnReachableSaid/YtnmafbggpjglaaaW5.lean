import Derived.Test.YtnmafbggpjglaaaW4
import Derived.Test.YtnmafbggpjglaaaP1
namespace Go.Proofs.Ytnmafbggpjglaaa
set_option linter.unusedVariables false
set_option linter.unusedSimpArgs false
open Go.RowKit

/-! The states reached, and Reachable of the reference. -/

def addR (xs : List Int) (n : Int) : List Int := if n ∈ xs then xs else xs ++ [n]
theorem addR_in {xs : List Int} {n : Int} (h : n ∈ xs) : addR xs n = xs := by unfold addR; rw [if_pos h]
theorem addR_out {xs : List Int} {n : Int} (h : ¬ n ∈ xs) : addR xs n = xs ++ [n] := by unfold addR; rw [if_neg h]
def innR (c : Cir) (s : Int) (xs : List Int) : Nat → List Int
  | 0 => xs
  | m + 1 => addR (innR c s xs m) (nextN c s m)
def outR (c : Cir) (M : Nat) : Nat → Nat → List Int → List Int
  | 0, _, xs => xs
  | f + 1, k, xs => match xs[k]? with
    | none => xs
    | some s => outR c M f (k + 1) (innR c s xs M)
theorem outR_end {c : Cir} {M f k : Nat} {xs : List Int} (h : ¬ k < xs.length) : outR c M f k xs = xs := by
  cases f with
  | zero => rfl
  | succ f => unfold outR; rw [List.getElem?_eq_none (by omega)]
theorem outR_step {c : Cir} {M f k : Nat} {xs : List Int} {s : Int} (h : xs[k]? = some s) : outR c M (f + 1) k xs = outR c M f (k + 1) (innR c s xs M) := by
  show (match xs[k]? with
    | none => xs
    | some s => outR c M f (k + 1) (innR c s xs M)) = _
  rw [h]
def reachR (c : Cir) : List Int := if c.validB = true then outR c (2 ^ c.inp.toNat) (2 ^ c.next.length) 0 [0] else []
theorem reachR_no {c : Cir} (h : c.validB = false) : reachR c = [] := by unfold reachR; rw [h]; rfl
theorem reachR_yes {c : Cir} (h : c.validB = true) {ni : Nat} (hi : c.inp = ni) : reachR c = outR c (2 ^ ni) (2 ^ c.next.length) 0 [0] := by unfold reachR; rw [if_pos h, hi]; rfl
def goodR (N : Nat) (xs : List Int) : Prop := xs.Nodup ∧ ∀ x ∈ xs, 0 ≤ x ∧ x < N
theorem goodR_len : ∀ {N : Nat} {xs : List Int}, goodR N xs → xs.length ≤ N
  | 0, xs, h => by
    cases xs with
    | nil => simp
    | cons x xs => have := h.2 x (by simp); omega
  | N + 1, xs, h => by
    have := goodR_len (N := N) (xs := xs.erase (N : Int)) ⟨h.1.erase _, fun x hx => by
      have h1 := h.2 x (List.mem_of_mem_erase hx)
      have h2 := (h.1.mem_erase_iff.1 hx).1
      have : x ≠ (N : Int) := h2
      omega⟩
    rw [List.length_erase] at this
    split at this <;> omega
theorem goodR_add {N : Nat} {xs : List Int} {n : Int} (h : goodR N xs) (h0 : 0 ≤ n) (h1 : n < N) : goodR N (addR xs n) := by
  by_cases hm : n ∈ xs
  · rw [addR_in hm]; exact h
  · rw [addR_out hm]
    refine ⟨List.nodup_append.2 ⟨h.1, by simp, ?_⟩, fun x hx => ?_⟩
    · intro a ha b hb e
      simp at hb
      exact hm (hb ▸ e ▸ ha)
    · rcases List.mem_append.1 hx with h' | h'
      · exact h.2 x h'
      · simp at h'; omega
theorem nextN_lt (c : Cir) (s i : Int) : 0 ≤ nextN c s i ∧ nextN c s i < ((2 ^ c.next.length : Nat) : Int) := by
  have := nextN_bd c s i
  refine ⟨this.1, ?_⟩
  have h := this.2
  simpa using h
theorem goodR_inn {c : Cir} {s : Int} {xs : List Int} (h : goodR (2 ^ c.next.length) xs) : ∀ m, goodR (2 ^ c.next.length) (innR c s xs m)
  | 0 => h
  | m + 1 => goodR_add (goodR_inn h m) (nextN_lt c s m).1 (nextN_lt c s m).2
theorem addR_get {xs : List Int} {n x : Int} {k : Nat} (h : xs[k]? = some x) : (addR xs n)[k]? = some x := by
  by_cases hm : n ∈ xs
  · rw [addR_in hm]; exact h
  · rw [addR_out hm, List.getElem?_append_left (List.getElem?_eq_some_iff.1 h).1]; exact h
theorem innR_get {c : Cir} {s x : Int} {xs : List Int} {k : Nat} (h : xs[k]? = some x) : ∀ m, (innR c s xs m)[k]? = some x
  | 0 => h
  | m + 1 => addR_get (innR_get h m)
theorem goodR_zero (N : Nat) (h : 0 < N) : goodR N [0] := ⟨by simp, fun x hx => by simp at hx; subst hx; omega⟩
theorem goodR_out {c : Cir} {M : Nat} : ∀ {f k : Nat} {xs : List Int}, goodR (2 ^ c.next.length) xs → goodR (2 ^ c.next.length) (outR c M f k xs)
  | 0, _, _, h => h
  | f + 1, k, xs, h => by
    cases hx : xs[k]? with
    | none => unfold outR; rw [hx]; exact h
    | some s => rw [outR_step hx]; exact goodR_out (goodR_inn h M)
theorem reachR_len (c : Cir) : (reachR c).length ≤ 1000000 := by
  cases h : c.validB
  · rw [reachR_no h]; simp
  · have hv := c.validB_iff.1 h
    obtain ⟨q1, q2, q3, q4, q5⟩ := id hv.lim
    have hp : 2 ^ c.next.length ≤ 2 ^ 10 := Nat.pow_le_pow_right (by omega) (by omega)
    have := goodR_len (goodR_out (c := c) (M := 2 ^ c.inp.toNat) (f := 2 ^ c.next.length) (k := 0) (goodR_zero (2 ^ c.next.length) (Nat.pow_pos (by omega))))
    unfold reachR
    rw [if_pos h]
    omega

set_option maxRecDepth 100000 in
set_option maxHeartbeats 3200000 in
theorem Reachable_s (v : Value) (c : Cir) (w : World) (h : CirV w v c) :
    Calls Try.prog 16 #[v] w fun e w' => ∃ s cap, e = .returned (.slice s (reachR c).length cap) ∧ Sl w' s (ints (reachR c)) ∧ Below w.heap.size w w' := by
  have HC : Hid (∀ w', Below w.heap.size w w' → CirV w' v c) := fun w' hb => h.mono hb
  obtain ⟨sn, cn, sg, cg, so, co, rfl, h1, h2, h3, hl1, hl2, hl3⟩ := h
  have hL : Below w.heap.size w (w.alloc (.cells #[.int .i64 c.inp, .slice sn c.next.length cn, .slice sg c.gates.length cg, .slice so c.outs.length co] 26)) := by go_grown
  have hN := blk_new w (.cells #[.int .i64 c.inp, .slice sn c.next.length cn, .slice sg c.gates.length cg, .slice so c.outs.length co] 26)
  have HL := Lib.hid (And.intro hL hN)
  clear hL hN h1 h2 h3
  cases hv : c.validB
  · rw [reachR_no hv]
    have HE := Lib.hid hv
    clear hv
    go_enter Try.func16, Try.ntmps16
    go_wp2_with (go_at_call 17; ((with_reducible refine (CircuitValid_s _ _ _ (HC.out _ HL.out.1)).mono ?_); rintro e w1 ⟨rfl, hq⟩; have HQ := Lib.hid hq; clear hq; rw [HE.out]))
    go_ret
    exact ⟨_, _, rfl, Sl.nil _ _, (HL.out.1.trans (HQ.out.mono (by simp))).alloc (by have := HL.out.1.size; have := HQ.out.size; omega) _⟩
  · have hval := c.validB_iff.1 hv
    obtain ⟨q1, q2, q3, q4, q5⟩ := id hval.lim
    obtain ⟨ni, hni⟩ : ∃ ni : Nat, c.inp = ni := ⟨c.inp.toNat, by omega⟩
    have n4 : ni ≤ 4 := by omega
    rw [reachR_yes hv hni]
    obtain ⟨M, hM⟩ : ∃ M, M = 2 ^ ni := ⟨_, rfl⟩
    obtain ⟨N, hN⟩ : ∃ N, N = 2 ^ c.next.length := ⟨_, rfl⟩
    have hwp : wrap64 (2 ^ ni) = (M : Int) := by rw [wrap_pow (by omega), hM]; simp
    have M16 : M ≤ 16 := by have : 2 ^ ni ≤ 2 ^ 4 := Nat.pow_le_pow_right (by omega) n4; omega
    have N1000 : N ≤ 1000 := by have : 2 ^ c.next.length ≤ 2 ^ 8 := Nat.pow_le_pow_right (by omega) (by omega); omega
    have N0 : 0 < N := by rw [hN]; exact Nat.pow_pos (by omega)
    rw [← hM, ← hN]
    obtain ⟨R, hR⟩ : ∃ R, R = outR c M N 0 [0] := ⟨_, rfl⟩
    rw [← hR]
    have HH := Lib.hid (And.intro hv (And.intro hval (And.intro hN hR)))
    rw [hni] at HL HC ⊢
    clear hv hval hM hN hR hni
    go_enter Try.func16, Try.ntmps16
    go_wp2_with (go_at_call 17; ((with_reducible refine (CircuitValid_s _ _ _ (HC.out _ HL.out.1)).mono ?_); rintro e w1 ⟨rfl, hq⟩; have HQ := Lib.hid (And.intro (HL.out.1.trans (hq.mono HL.out.1.size)) (blk_below hq (blk_lt HL.out.2) HL.out.2)); clear hq; rw [HH.out.1]))
    have hW := HQ.out.1.alloc HQ.out.1.size (.cells #[.int .i64 0] 3)
    have hxW := blk_old (o := .cells #[.int .i64 0] 3) HQ.out.2
    have hoW : (w1.alloc (.cells #[.int .i64 0] 3)).ownsRow (w.heap.size + 1) 3 1 (.slice (some ⟨w1.heap.size, 0, none⟩) 1 1) 1 (ints [0]) := own_of_blk (n := 1) (cur := #[.int .i64 0]) (blk_new _ _) (blk_lt HQ.out.2) (by simp) (by unfold maxLen; omega)
    revert hW hxW hoW
    generalize w1.alloc (.cells #[.int .i64 0] 3) = W2
    intro hW hxW hoW
    have HW := Lib.hid (And.intro hW (And.intro hxW hoW))
    have hW2s := blk_lt hxW
    clear hW hxW hoW HQ HL
    go_loopw [4, 3] (fun i x wr => ∃ (k : Nat) (xs : List Int) (s : Option Addr) (cc f : Nat), k + f = N ∧ i = .int .i64 k ∧ x = .slice s xs.length cc ∧ wr.ownsRow (w.heap.size + 1) 3 1 x xs.length (ints xs) ∧ goodR N xs ∧ outR c M f k xs = R ∧ Below (w.heap.size + 1) W2 wr) (fun i _ _ => N - (intOf i).toNat)
    case atStart => exact ⟨0, [0], _, _, N, by omega, rfl, rfl, HW.out.2.2, goodR_zero N N0, HH.out.2.2.2.symm, Below.refl _ _⟩
    case round =>
      obtain ⟨k, xs, s3, c3, f, hkf, rfl, rfl, ho, hgd, hrr, hbl⟩ := hrel
      have hlen := goodR_len hgd
      by_cases hlt : k < xs.length
      · obtain ⟨f, rfl⟩ : ∃ f', f = f' + 1 := ⟨f - 1, by omega⟩
        obtain ⟨sk, hsk⟩ := get_of_lt hlt
        rw [outR_step hsk] at hrr
        obtain ⟨k0, k1⟩ := hgd.2 sk (List.mem_of_getElem? hsk)
        obtain ⟨WO, hWO⟩ : ∃ WO, WO = wr := ⟨_, rfl⟩
        subst hWO
        have HR := Lib.hid (And.intro ho (And.intro hgd (And.intro hrr (And.intro hbl hsk))))
        clear ho hgd hrr hbl hsk
        go_wp2_with fail
        go_loopw [5, 3] (fun i x wr => ∃ (m : Nat) (ys : List Int) (s : Option Addr) (cc : Nat), m ≤ M ∧ i = .int .i64 m ∧ x = .slice s ys.length cc ∧ wr.ownsRow (w.heap.size + 1) 3 1 x ys.length (ints ys) ∧ ys = innR c sk xs m ∧ Below (w.heap.size + 1) W2 wr) (fun i _ _ => M - (intOf i).toNat)
        case atStart => exact ⟨0, xs, _, _, Nat.zero_le _, rfl, rfl, HR.out.1, rfl, HR.out.2.2.2.1⟩
        case round =>
          obtain ⟨m, ys, s4, c4, hm, rfl, rfl, ho, hys, hbl⟩ := hrel
          have hgy : goodR N ys := by rw [hys, HH.out.2.2.1]; exact goodR_inn (by rw [← HH.out.2.2.1]; exact HR.out.2.1) m
          have hly := goodR_len hgy
          have hyk : ys[k]? = some sk := by rw [hys]; exact innR_get HR.out.2.2.2.2 m
          have hbx := blk_below hbl (Nat.lt_succ_self _) HW.out.2.1
          have hbw : Below w.heap.size w wr := HW.out.1.trans (hbl.mono (Nat.le_succ _))
          have cb := (blk_all hbx).1
          have hxs := blk_lt hbx
          by_cases hlm : m < M
          · have hky : k < ys.length := (List.getElem?_eq_some_iff.1 hyk).1
            obtain ⟨yb, yo, rfl, hyb, zy⟩ := (own_sl ho).int (Below.refl _ _) hyk
            have HI := Lib.hid (And.intro ho (And.intro hys (And.intro hbl (And.intro hbx (And.intro hbw (And.intro hyb zy))))))
            clear ho hys hbl hbx hbw hyb hgy hyk
            obtain ⟨n, hn⟩ : ∃ n, n = nextN c sk m := ⟨_, rfl⟩
            have hnb := nextN_lt c sk m
            rw [← hn, ← HH.out.2.2.1] at hnb
            obtain ⟨n0, n1⟩ := hnb
            have HNn := Lib.hid hn
            clear hn
            go_upto_region 10 with fail
            have hS0 : (∀ o, wr.drew.cell? ⟨w.heap.size, o, none⟩ = #[Value.int .i64 ni, Value.slice sn c.next.length cn, Value.slice sg c.gates.length cg, Value.slice so c.outs.length co][o]?) ∧ wr.drew.cell? ⟨yb, yo + k, none⟩ = some (.int .i64 sk) := ⟨cb, zy⟩
            clear cb zy
            refine wp_region_T (fun w' => (∀ o, w'.cell? ⟨w.heap.size, o, none⟩ = #[Value.int .i64 ni, Value.slice sn c.next.length cn, Value.slice sg c.gates.length cg, Value.slice so c.outs.length co][o]?) ∧ w'.cell? ⟨yb, yo + k, none⟩ = some (.int .i64 sk)) (.q 0 (.q 1 (.q 2 (.q 3 (.q 4 (.q 5 (.e 6 (.q 7 .nil)))))))) (by kernel_rfl) (by kernel_rfl) (by kernel_rfl) hS0 ?_
            repeat (first | (refine ordt_s (o := ?_) ?_ ?_ ?_; rotate_left 1; (focus ((simp only [List.getElem?_toArray, List.getElem?_cons_succ, List.getElem?_cons_zero]) <;> rfl)); (focus rfl); simp only [Act.put, List.setIfInBounds_toArray, List.set_cons_zero, List.set_cons_succ]) | (refine ordt_q (o := ?_) (v := ?_) ?_ ?_ ?_ ?_; rotate_left 2; (focus ((simp only [List.getElem?_toArray, List.getElem?_cons_succ, List.getElem?_cons_zero]) <;> rfl)); (focus rfl); (focus (intro w' hS; (try dsimp only at hS); go_split_ands; go_simp; (try (with_reducible rfl)))); simp only [Act.put, List.setIfInBounds_toArray, List.set_cons_zero, List.set_cons_succ]))
            refine ordt_e ?_
            (refine op_e (o := ?_) ?_ ?_ (fun K hK => ?_); rotate_left 1; (focus ((simp only [List.getElem?_toArray, List.getElem?_cons_succ, List.getElem?_cons_zero]) <;> rfl)); (focus rfl); go_simp)
            refine (l16Next_any _ c sk m _ (HC.out _ HI.out.2.2.2.2.1.drew) HH.out.2.1 k0 (by omega) (by omega) (by omega)).mono ?_
            rintro e wn ⟨rfl, hq⟩
            rw [← HNn.out]
            have hbn : Below wr.heap.size wr wn := (Below.refl _ _).drew.trans hq
            have hxn := blk_below hbn hxs HI.out.2.2.2.1
            refine hK.out _ _ ⟨(blk_all hxn).1, (hbn.cell (p := ⟨yb, yo + k, none⟩) HI.out.2.2.2.2.2.1).trans HI.out.2.2.2.2.2.2⟩ ?_
            clear hK K hq hS0
            have hsz := hbn.size
            have HN := Lib.hid (And.intro (own_below HI.out.1 hbn) (And.intro (HI.out.2.2.1.trans (hbn.mono (by omega))) (And.intro hxn (HI.out.2.2.2.2.1.trans (hbn.mono (by omega))))))
            clear hbn hxn
            (try simp only [Act.put, List.setIfInBounds_toArray, List.set_cons_zero, List.set_cons_succ])
            repeat (first | (refine ordt_s (o := ?_) ?_ ?_ ?_; rotate_left 1; (focus ((simp only [List.getElem?_toArray, List.getElem?_cons_succ, List.getElem?_cons_zero]) <;> rfl)); (focus rfl); simp only [Act.put, List.setIfInBounds_toArray, List.set_cons_zero, List.set_cons_succ]) | (refine ordt_q (o := ?_) (v := ?_) ?_ ?_ ?_ ?_; rotate_left 2; (focus ((simp only [List.getElem?_toArray, List.getElem?_cons_succ, List.getElem?_cons_zero]) <;> rfl)); (focus rfl); (focus (intro w' hS; (try dsimp only at hS); go_split_ands; go_simp; (try (with_reducible rfl)))); simp only [Act.put, List.setIfInBounds_toArray, List.set_cons_zero, List.set_cons_succ]))
            refine ordt_nil ?_
            by_cases hmem : n ∈ ys
            · have hd : Hid (decide (n ∈ ys) = true) := decide_eq_true hmem
              have HM := Lib.hid hmem
              clear hmem
              go_wp2_with (go_at_call 55; ((with_reducible refine (l16Has_any _ _ ys n _ (own_sl HN.out.1) (by omega)).mono ?_); rintro e w5 ⟨rfl, rfl⟩; rw [hd.out]))
              go_roundw
              case rel => exact ⟨m + 1, ys, _, _, by omega, by go_num, rfl, HN.out.1, by show _ = addR _ _; rw [← HI.out.2.1, ← HNn.out, addR_in HM.out], HN.out.2.1⟩
              case measure => simp [intOf]; omega
            · have hd : Hid (decide (n ∈ ys) = false) := decide_eq_false hmem
              have HM := Lib.hid hmem
              clear hmem
              go_wp2_with (first
                | (go_at_call 55; ((with_reducible refine (l16Has_any _ _ ys n _ (own_sl HN.out.1) (by omega)).mono ?_); rintro e w5 ⟨rfl, rfl⟩; rw [hd.out]))
                | (at_builtin; refine wpl_app rfl _ _ rfl elem_int (own_below HN.out.1 ((Below.refl _ _).alloc (Nat.le_refl _) _)) rfl rfl rfl (Sl.new _ _ _) (by simp [Value.oneCell']) (ys.length + 1) rfl (ints (ys ++ [n])) (by rw [← ints_append]; rfl) (by unfold maxLen; omega) (by omega) (by simp; omega) ?_; intro s6 c6 w6 h6 hb6 _ _; have HA := Lib.hid (And.intro h6 ((HN.out.2.1.alloc (by omega) _).trans hb6)); clear h6 hb6))
              go_roundw
              case rel => exact ⟨m + 1, ys ++ [n], s6, c6, by omega, by go_num, by simp, by simpa using HA.out.1, by show _ = addR _ _; rw [← HI.out.2.1, ← HNn.out, addR_out HM.out], HA.out.2⟩
              case measure => simp [intOf]; omega
          · obtain rfl : m = M := by omega
            have HI := Lib.hid (And.intro ho (And.intro hys (And.intro hbl hgy)))
            clear ho hys hbl hbx hbw hgy hyk
            go_wp2_with fail
            go_roundw
            case rel => exact ⟨k + 1, ys, s4, c4, f, by omega, by go_num, rfl, HI.out.1, HI.out.2.2.2, by rw [HI.out.2.1]; exact HR.out.2.2.1, HI.out.2.2.1⟩
            case measure => simp [intOf]; omega
      · rw [outR_end hlt] at hrr
        subst hrr
        have HR := Lib.hid (And.intro ho (And.intro hgd hbl))
        clear ho hgd hbl
        go_wp2_with fail
        go_ret
        exact ⟨s3, c3, rfl, own_sl HR.out.1, HW.out.1.trans (HR.out.2.2.mono (Nat.le_succ _))⟩

end Go.Proofs.Ytnmafbggpjglaaa
