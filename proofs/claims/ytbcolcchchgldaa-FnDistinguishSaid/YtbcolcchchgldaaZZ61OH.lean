import Derived.Test.YtbcolcchchgldaaZZ61OE
import Derived.Test.YtbcolcchchgldaaZZ61L4
import Derived.Test.YtbcolcchchgldaaZZ61Y0
import Derived.Test.YtbcolcchchgldaaZZ61V2
import Derived.Test.YtbcolcchchgldaaZZ61V3
import Derived.Test.YtbcolcchchgldaaZZ61OA
import Derived.Laws.BytesArg
import Derived.Lib.SliceRun
namespace Go.Proofs.Ytbcolcchchgldaa
set_option linter.unusedVariables false
set_option linter.unusedSimpArgs false
open Go.RowKit

/-! Part of the proof of one law. -/

theorem l2Lit_any (s : Option Addr) (vs : List Bool) (cap : Nat) (l : Int) (w : World) (h : Sl w s (bools vs)) (h0 : 0 ≤ l) (h1 : l ≤ 1000000) (h2 : l / 2 < vs.length) :
    Calls Try.prog 158 #[.slice s vs.length cap, .int .i64 l] w fun e w' => e = .returned (.bool (litB vs l)) ∧ w = w' := by
  obtain ⟨p, hp⟩ : ∃ p : Nat, l / 2 = p := ⟨(l / 2).toNat, by omega⟩
  have p2 : p < vs.length := by omega
  obtain ⟨x, hx⟩ := get_of_lt p2
  obtain ⟨b, off, rfl, hbw, hz⟩ := h.bool (Below.refl _ _) hx
  rw [litB_eq hp hx]
  have H := Lib.hid (And.intro h hx)
  clear h hx h2
  go_enter Try.func158, Try.ntmps158
  go_wp2
  go_ret
  exact ⟨rfl, rfl⟩

set_option maxHeartbeats 400000 in
theorem l4Bits_any (x : Int) (n : Nat) (w : World) (h0 : 0 ≤ x) (h1 : x ≤ 1000000) (hn : n ≤ 20) :
    Calls Try.prog 131 #[.int .i64 x, .int .i64 n] w fun e w' => ∃ s c, e = .returned (.slice s n c) ∧ Sl w' s (bools (bitsV x n)) ∧ Below w.heap.size w w' := by
  have hA : Below w.heap.size w (w.alloc (.cells #[] 4)) := (Below.refl _ _).alloc (Nat.le_refl _) _
  have ho : (w.alloc (.cells #[] 4)).ownsRow w.heap.size 4 1 (.slice (some ⟨w.heap.size, 0, none⟩) 0 0) 0 [] := own_of_blk (n := 0) (cur := #[]) (blk_new w _) (Nat.le_refl _) (by simp) (by unfold maxLen; omega)
  have HO := Lib.hid (And.intro ho hA)
  clear ho hA
  go_enter Try.func131, Try.ntmps131
  go_wp2
  revert HO
  generalize w.alloc (.cells #[] 4) = WA
  intro HO
  go_loopw [6, 5] (fun i v wr => ∃ (k : Nat) (s : Option Addr) (c : Nat), k ≤ n ∧ i = .int .i64 k ∧ v = .slice s k c ∧ wr.ownsRow w.heap.size 4 1 v k (bools (bitsV x k)) ∧ Below w.heap.size w wr) (fun i _ _ => n - (intOf i).toNat)
  case atStart => exact ⟨0, _, _, Nat.zero_le _, rfl, rfl, HO.out.1, HO.out.2⟩
  case round =>
    obtain ⟨k, so, c, hk, rfl, rfl, ho, hbl⟩ := hrel
    by_cases hlt : k < n
    · have hpw : (1 : Int) ≤ 2 ^ k := by have : (0 : Int) < 2 ^ k := Int.pow_pos (by decide); omega
      have q1 : 0 ≤ x / 2 ^ k := Int.ediv_nonneg h0 (by omega)
      have q2 : x / 2 ^ k ≤ 1000000 := Int.le_trans (Int.ediv_le_self _ h0) h1
      have hbs := hbl.size
      have HR := Lib.hid (And.intro ho (And.intro hbl hpw))
      clear ho hbl hpw
      go_wp2_with (at_builtin; refine wpl_app rfl _ _ rfl elem_bool (own_below HR.out.1 ((Below.refl _ _).alloc (Nat.le_refl _) _)) rfl rfl rfl (Sl.new _ _ _) (by simp [Value.oneCell']) (k + 1) rfl _ rfl (by unfold maxLen; omega) (by omega) (by simp; omega) ?_; intro s3 c3 w3 h3 hb3 _ _; have HA := Lib.hid (And.intro h3 hb3); clear h3 hb3)
      go_roundw
      case rel =>
        refine ⟨k + 1, s3, c3, by omega, by go_num, rfl, ?_, (HR.out.2.1.alloc hbs _).trans HA.out.2⟩
        have e := HA.out.1
        rw [bitsV_snoc]
        unfold bools at *
        rw [List.map_append]
        exact e
      case measure => simp [intOf]; omega
    · obtain rfl : k = n := by omega
      have HR := Lib.hid (And.intro ho hbl)
      clear ho hbl
      go_wp2
      go_ret
      exact ⟨_, _, rfl, own_sl HR.out.1, HR.out.2⟩

set_option maxHeartbeats 400000 in
theorem l2Lits_any (s t : Option Addr) (vs : List Bool) (cap capl : Nat) (xs : List Int) (w : World) (h : Sl w s (bools vs)) (ht : Sl w t (ints xs)) (hx : ∀ x ∈ xs, 0 ≤ x ∧ x ≤ 1000000 ∧ x / 2 < vs.length) (hl : xs.length ≤ 1000) :
    Calls Try.prog 155 #[.slice s vs.length cap, .slice t xs.length capl] w fun e w' => ∃ s c, e = .returned (.slice s xs.length c) ∧ Sl w' s (bools (xs.map (litB vs))) ∧ Below w.heap.size w w' := by
  have H := Lib.hid (And.intro h (And.intro ht hx))
  clear h ht hx
  have hA : Below w.heap.size w (w.alloc (.cells #[] 4)) := (Below.refl _ _).alloc (Nat.le_refl _) _
  have ho : (w.alloc (.cells #[] 4)).ownsRow w.heap.size 4 1 (.slice (some ⟨w.heap.size, 0, none⟩) 0 0) 0 [] := own_of_blk (n := 0) (cur := #[]) (blk_new w _) (Nat.le_refl _) (by simp) (by unfold maxLen; omega)
  have HO := Lib.hid (And.intro ho hA)
  clear ho hA
  go_enter Try.func155, Try.ntmps155
  go_wp2
  revert HO
  generalize w.alloc (.cells #[] 4) = WA
  intro HO
  go_loopw [6, 5] (fun i v wr => ∃ (k : Nat) (s : Option Addr) (c : Nat), k ≤ xs.length ∧ i = .int .i64 k ∧ v = .slice s k c ∧ wr.ownsRow w.heap.size 4 1 v k (bools ((xs.take k).map (litB vs))) ∧ Below w.heap.size w wr) (fun i _ _ => xs.length - (intOf i).toNat)
  case atStart => exact ⟨0, _, _, Nat.zero_le _, rfl, rfl, by simpa [bools] using HO.out.1, HO.out.2⟩
  case round =>
    obtain ⟨k, so, c, hk, rfl, rfl, ho, hbl⟩ := hrel
    by_cases hlt : k < xs.length
    · obtain ⟨x, hx⟩ := get_of_lt hlt
      obtain ⟨b, off, rfl, hbw, hz⟩ := H.out.2.1.int hbl hx
      obtain ⟨x0, x1, x2⟩ := H.out.2.2 x (List.mem_of_getElem? hx)
      have hbs := hbl.size
      have HR := Lib.hid (And.intro ho (And.intro hbl hx))
      clear ho hbl hx
      go_wp2_with (first
        | (go_at_call 158; ((refine (l2Lit_any _ _ _ _ _ (H.out.1.mono HR.out.2.1) x0 x1 x2).mono ?_); rintro e w' ⟨rfl, rfl⟩))
        | (at_builtin; refine wpl_app rfl _ _ rfl elem_bool (own_below HR.out.1 ((Below.refl _ _).alloc (Nat.le_refl _) _)) rfl rfl rfl (Sl.new _ _ _) (by simp [Value.oneCell']) (k + 1) rfl _ rfl (by unfold maxLen; omega) (by omega) (by simp; omega) ?_; intro s3 c3 w3 h3 hb3 _ _; have HA := Lib.hid (And.intro h3 hb3); clear h3 hb3))
      obtain ⟨ho, hbl, hx⟩ := HR.out
      go_roundw
      case rel =>
        refine ⟨k + 1, s3, c3, by omega, by go_num, rfl, ?_, (hbl.alloc hbs _).trans HA.out.2⟩
        have := HA.out.1
        rw [List.take_add_one, hx]
        simpa [bools] using this
      case measure => simp [intOf]; omega
    · obtain rfl : k = xs.length := by omega
      rw [List.take_length] at ho
      have HR := Lib.hid (And.intro ho hbl)
      clear ho hbl
      go_wp2
      go_ret
      exact ⟨_, _, rfl, own_sl HR.out.1, HR.out.2⟩

set_option maxRecDepth 100000 in
set_option maxHeartbeats 800000 in
theorem l2Values_any (v : Value) (c : Cir) (ss si : Option Addr) (cs ci : Nat) (S I : List Bool) (w : World) (h : CirV w v c) (hv : c.valid) (hS : Sl w ss (bools S)) (hI : Sl w si (bools I))
    (lS : S.length = c.next.length) (ni : Nat) (lI : I.length = ni) (li : c.inp = ni) :
    Calls Try.prog 154 #[v, .slice ss c.next.length cs, .slice si ni ci] w fun e w' => ∃ s n cc, e = .returned (.slice s n cc) ∧ n = (valsV (-1) false (false :: (I ++ S)) c.gates).length ∧
      Sl w' s (bools (valsV (-1) false (false :: (I ++ S)) c.gates)) ∧ Below w.heap.size w w' := by
  obtain ⟨sn, cn, sg, cg, so, co, rfl, h1, h2, h3, hl1, hl2, hl3⟩ := h
  obtain ⟨f1, f2, f3, f4⟩ := valid_first hv
  obtain ⟨q1, q2, q3, q4, q5⟩ := id hv.lim
  have eF : c.first = 1 + c.inp + c.next.length := rfl
  have n4 : ni ≤ 4 := by omega
  obtain ⟨F, hF⟩ : ∃ F, F = 1 + ni + c.next.length := ⟨_, rfl⟩
  have eF2 : c.first = (F : Int) := by omega
  have f8 : F ≤ 8 := by omega
  have lB : (false :: (I ++ S)).length = F := by simp; omega
  have lF : 1 + ni + c.next.length ≤ F := by omega
  have H := Lib.hid (And.intro h2 (And.intro hv (And.intro hS (And.intro hI (And.intro lS (And.intro lI (And.intro eF2 (And.intro hF lB))))))))
  have hL : Below w.heap.size w (w.alloc (.cells #[.int .i64 c.inp, .slice sn c.next.length cn, .slice sg c.gates.length cg, .slice so c.outs.length co] 26)) := by go_grown
  have hN := blk_new w (.cells #[.int .i64 c.inp, .slice sn c.next.length cn, .slice sg c.gates.length cg, .slice so c.outs.length co] 26)
  have HL := Lib.hid (And.intro hL hN)
  have hb1 := hL.alloc hL.size (.cells #[.bool false] 4)
  have ho1 : ((w.alloc (.cells #[.int .i64 c.inp, .slice sn c.next.length cn, .slice sg c.gates.length cg, .slice so c.outs.length co] 26)).alloc (.cells #[.bool false] 4)).ownsRow (w.heap.size + 1) 4 1 (.slice (some ⟨w.heap.size + 1, 0, none⟩) 1 1) 1 (bools [false]) :=
    own_of_blk (n := 1) (cur := #[.bool false]) (blk_at (by simp)) (Nat.le_refl _) (by simp) (by unfold maxLen; omega)
  have hn1 := blk_old (o := .cells #[.bool false] 4) hN
  have hz1 : ((w.alloc (.cells #[.int .i64 c.inp, .slice sn c.next.length cn, .slice sg c.gates.length cg, .slice so c.outs.length co] 26)).alloc (.cells #[.bool false] 4)).heap.size = w.heap.size + 2 := by simp
  have H1 := Lib.hid (And.intro hb1 (And.intro ho1 (And.intro hn1 hz1)))
  clear h1 h2 h3 hv hS hI lS lI li f1 f2 f3 f4 q1 q2 q5 eF hF eF2 lB hL hN hb1 ho1 hn1 hz1
  go_enter Try.func154, Try.ntmps154
  go_wp2_with (first
    | (at_builtin; refine wpl_app rfl (.tmp 9) (.tmp 10) rfl elem_bool H1.out.2.1 rfl rfl (by simp [H.out.2.2.2.2.2.1]) (H.out.2.2.2.1.mono H1.out.1) (bools_one _) (1 + ni) rfl (bools ([false] ++ I)) (by rw [bools_append]) (by unfold maxLen; omega) (by omega) (by have := H1.out.2.2.2; omega) ?_; intro s3 c3 w3 h3 hb3 _ _; have HA := Lib.hid (And.intro h3 hb3); clear h3 hb3)
    | (at_builtin; refine wpl_app rfl (.tmp 12) (.tmp 13) rfl elem_bool HA.out.1 rfl rfl (by simp [H.out.2.2.2.2.1]) (H.out.2.2.1.mono (H1.out.1.trans (HA.out.2.mono (Nat.le_succ _)))) (bools_one _) (1 + ni + c.next.length) rfl (bools ([false] ++ I ++ S)) (by rw [bools_append]) (by unfold maxLen; omega) (by omega) (by have := H1.out.2.2.2; have := HA.out.2.size; omega) ?_; intro s4 c4 w4 h4 hb4 _ _; have HB := Lib.hid (And.intro h4 hb4); clear h4 hb4))
  have hb := HA.out.2.trans HB.out.2
  have ho := HB.out.1
  clear HA HB
  revert H1 hb
  generalize ((w.alloc (.cells #[.int .i64 c.inp, .slice sn c.next.length cn, .slice sg c.gates.length cg, .slice so c.outs.length co] 26)).alloc (.cells #[.bool false] 4)) = W1
  intro H1 hb
  obtain ⟨B0, hB0⟩ : ∃ B0, B0 = false :: (I ++ S) := ⟨_, rfl⟩
  have e1 : [false] ++ I ++ S = B0 := by rw [hB0]; simp
  rw [e1, ← H.out.2.2.2.2.2.2.2.1] at ho
  have eN : 1 + ni + c.next.length = F := H.out.2.2.2.2.2.2.2.1.symm
  rw [eN]
  have lB : B0.length = F := by rw [hB0]; exact H.out.2.2.2.2.2.2.2.2
  have HX := Lib.hid (And.intro hb (And.intro ho (And.intro hB0 lB)))
  clear hb ho hB0 lB e1 eN lF
  go_loopw [8, 7] (fun i v wr => ∃ (k : Nat) (s : Option Addr) (cc : Nat), k ≤ c.gates.length ∧ i = .int .i64 k ∧ v = .slice s (F + k) cc ∧ wr.ownsRow (w.heap.size + 1) 4 1 v (F + k) (bools (valsV (-1) false B0 (c.gates.take k))) ∧ Below (w.heap.size + 1) W1 wr) (fun i _ _ => c.gates.length - (intOf i).toNat)
  case atStart => exact ⟨0, _, _, Nat.zero_le _, rfl, rfl, by simpa [valsV] using HX.out.2.1, HX.out.1⟩
  case round =>
    obtain ⟨k, s7, c7, hk, rfl, rfl, ho, hbl⟩ := hrel
    have hbw : Below w.heap.size w wr := H1.out.1.trans (hbl.mono (Nat.le_succ _))
    have hcb := (blk_all (blk_below hbl (Nat.lt_succ_self _) H1.out.2.2.1)).1
    have hsz : w.heap.size + 2 ≤ wr.heap.size := by have h1 := hbl.size; have h2 := H1.out.2.2.2; omega
    by_cases hlt : k < c.gates.length
    · obtain ⟨g, hg⟩ := get_of_lt hlt
      obtain ⟨gb, off, rfl, hbw2, z1, z2⟩ := H.out.1.gate hbw hg
      obtain ⟨⟨a1, a2⟩, b1, b2⟩ := valid_gate H.out.2.1 hg
      have hfF := H.out.2.2.2.2.2.2.1
      have a3 : g.a / 2 < F + k := by omega
      have b3 : g.b / 2 < F + k := by omega
      have a4 : g.a ≤ 1000000 := by omega
      have b4 : g.b ≤ 1000000 := by omega
      obtain ⟨P, hP⟩ : ∃ P, P = valsV (-1) false B0 (c.gates.take k) := ⟨_, rfl⟩
      have lP : P.length = F + k := by rw [hP, valsV_length, HX.out.2.2.2, List.length_take]; omega
      rw [← hP] at ho
      have hsn : valsV (-1) false B0 (c.gates.take (k + 1)) = P ++ [litB P g.a && litB P g.b] := by
        rw [valsV_snoc hg, ← hP]
        unfold stepV
        rw [if_neg (by omega)]
      have hlv : ∀ l : Int, 0 ≤ l → l ≤ 1000000 → l / 2 < F + k → Calls Try.prog 158 #[.slice s7 (F + k) c7, .int .i64 l] wr fun e w' => e = .returned (.bool (litB P l)) ∧ wr = w' := fun l h0 h1 h2 => by
        have := l2Lit_any s7 P c7 l wr (own_sl ho) h0 h1 (by rw [lP]; omega)
        rw [lP] at this
        exact this
      have HQ := Lib.hid (And.intro hlv (And.intro hsn (And.intro ho (And.intro hbl hP))))
      clear hlv hsn ho hbl hP lP hg hfF a2 b2 hbw hbw2
      obtain ⟨va, hva⟩ : ∃ va, va = litB P g.a := ⟨_, rfl⟩
      obtain ⟨vb, hvb⟩ : ∃ vb, vb = litB P g.b := ⟨_, rfl⟩
      have HV := Lib.hid (And.intro hva hvb)
      clear hva hvb
      cases va
      · go_wp2_with (first
          | (go_at_call 158; ((with_reducible refine (HQ.out.1 _ a1 a4 a3).mono ?_); rintro e w3 ⟨rfl, rfl⟩; rw [← HV.out.1]))
          | (at_builtin; refine wpl_app rfl _ _ rfl elem_bool (own_below HQ.out.2.2.1 ((Below.refl _ _).alloc (Nat.le_refl _) _)) rfl rfl rfl (Sl.new _ _ _) (by simp [Value.oneCell']) (F + k + 1) rfl _ rfl (by unfold maxLen; omega) (by omega) (by simp; omega) ?_; intro s3 c3 w3 h3 hb3 _ _; have HA := Lib.hid (And.intro h3 hb3); clear h3 hb3))
        go_roundw
        case rel =>
          refine ⟨k + 1, s3, c3, by omega, by go_num, rfl, ?_, (HQ.out.2.2.2.1.alloc (by omega) _).trans HA.out.2⟩
          have e := HA.out.1
          rw [HQ.out.2.1, ← HV.out.1]
          unfold bools at *
          rw [List.map_append]
          exact e
        case measure => simp [intOf]; omega
      · go_wp2_with (first
          | (go_at_call 158; ((with_reducible refine (HQ.out.1 _ a1 a4 a3).mono ?_); rintro e w3 ⟨rfl, rfl⟩; rw [← HV.out.1]))
          | (go_at_call 158; ((with_reducible refine (HQ.out.1 _ b1 b4 b3).mono ?_); rintro e w3 ⟨rfl, rfl⟩; rw [← HV.out.2]))
          | (at_builtin; refine wpl_app rfl _ _ rfl elem_bool (own_below HQ.out.2.2.1 ((Below.refl _ _).alloc (Nat.le_refl _) _)) rfl rfl rfl (Sl.new _ _ _) (by simp [Value.oneCell']) (F + k + 1) rfl _ rfl (by unfold maxLen; omega) (by omega) (by simp; omega) ?_; intro s3 c3 w3 h3 hb3 _ _; have HA := Lib.hid (And.intro h3 hb3); clear h3 hb3))
        go_roundw
        case rel =>
          refine ⟨k + 1, s3, c3, by omega, by go_num, rfl, ?_, (HQ.out.2.2.2.1.alloc (by omega) _).trans HA.out.2⟩
          have e := HA.out.1
          rw [HQ.out.2.1, ← HV.out.1, ← HV.out.2]
          unfold bools at *
          rw [List.map_append]
          exact e
        case measure => simp [intOf]; omega
    · obtain rfl : k = c.gates.length := by omega
      rw [List.take_length, HX.out.2.2.1] at ho
      have HR := Lib.hid (And.intro ho hbw)
      clear ho hbl hbw
      go_wp2
      go_ret
      exact ⟨_, _, _, rfl, by rw [valsV_length, H.out.2.2.2.2.2.2.2.2], own_sl HR.out.1, HR.out.2⟩

set_option maxHeartbeats 800000 in
theorem EvalVars_any (c : Cir) (sn sg so ss si : Option Addr) (cn cg co cs ci : Nat) (S I : List Bool) (w : World) (ni : Nat) (li : c.inp = ni)
    (h : CirV w (.agg #[.int .i64 c.inp, .slice sn c.next.length cn, .slice sg c.gates.length cg, .slice so c.outs.length co]) c) (hg : Sl w sg (gcells c.gates)) (hv : c.valid) (hS : Sl w ss (bools S)) (hI : Sl w si (bools I)) (lS : S.length = c.next.length) (lI : I.length = ni) (V : Nat) (hV : c.vars = V) :
    Calls Try.prog 98 #[.agg #[.int .i64 ni, .slice sn c.next.length cn, .slice sg c.gates.length cg, .slice so c.outs.length co], .slice ss c.next.length cs, .slice si ni ci] w fun e w' => ∃ g, e = .returned (.slice (some ⟨g, 0, none⟩) V V) ∧
      w'.heap[g]? = some (.cells (bools (valsV (-1) false (stuckB (-1) false (false :: (I ++ S))) c.gates)).toArray 4 (0, 0)) ∧ Below w.heap.size w w' := by
  rw [li] at h
  have hk := blk_new w (.cells #[.int .i64 ni, .slice sn c.next.length cn, .slice sg c.gates.length cg, .slice so c.outs.length co] 26)
  have hb : Below w.heap.size w (w.alloc (.cells #[.int .i64 ni, .slice sn c.next.length cn, .slice sg c.gates.length cg, .slice so c.outs.length co] 26)) := (Below.refl _ _).alloc (Nat.le_refl _) _
  have HC : Hid (∀ W, Below w.heap.size w W → CirV W (.agg #[.int .i64 ni, .slice sn c.next.length cn, .slice sg c.gates.length cg, .slice so c.outs.length co]) c ∧ Sl W sg (gcells c.gates) ∧ Sl W ss (bools S) ∧ Sl W si (bools I)) := fun W hW => ⟨h.mono hW, hg.mono hW, hS.mono hW, hI.mono hW⟩
  obtain ⟨q1, q2, q3, q4, q5⟩ := id hv.lim
  have n4 : ni ≤ 4 := by omega
  have hvt := c.validB_iff.2 hv
  have H := Lib.hid (And.intro hk (And.intro hb (And.intro hv (And.intro lS (And.intro lI (And.intro li (And.intro hV hvt)))))))
  have hvp : -1 < (V : Int) := by omega
  clear h hg hS hI hk hb hv lS lI li hV hvt q1 q2
  go_enter Try.func98, Try.ntmps98
  go_upto_region 1 with fail
  revert H
  generalize w.alloc (.cells #[.int .i64 ni, .slice sn c.next.length cn, .slice sg c.gates.length cg, .slice so c.outs.length co] 26) = W0
  intro H
  have cb := (blk_all H.out.1).1
  go_wp2_with (first
    | (go_at_call 18; ((with_reducible refine (CircuitValid_i _ c _ (HC.out _ H.out.2.1).1).mono ?_); rintro e w1 ⟨rfl, hq⟩; rw [H.out.2.2.2.2.2.2.2]; have H1 := Lib.hid (And.intro (blk_below hq (blk_lt H.out.1) H.out.1) (H.out.2.1.trans (hq.mono H.out.2.1.size))); clear hq cb; have cb := (blk_all H1.out.1).1))
    | (go_at_call 136; ((refine (evaluate_any w.heap.size sn sg cn cg (.slice so c.outs.length co) c ss si cs ci S I (-1) false w1 (by have h := CirAt.of_blk H1.out.1; rw [← H.out.2.2.2.2.2.1] at h; exact h) (HC.out _ H1.out.2).2.1 H.out.2.2.1 (HC.out _ H1.out.2).2.2.1 (HC.out _ H1.out.2).2.2.2 H.out.2.2.2.1 ni H.out.2.2.2.2.1 H.out.2.2.2.2.2.1 V H.out.2.2.2.2.2.2.1 (by omega) hvp).mono ?_); rintro e w2 ⟨g, rfl, hz, hq⟩; have H2 := Lib.hid (And.intro hz (H1.out.2.trans (hq.mono H1.out.2.size))); clear hz hq)))
  go_ret
  exact ⟨g, rfl, H2.out.1, H2.out.2⟩

theorem roots_lits {c : Cir} (hv : c.valid) : ∀ x ∈ c.next ++ c.outs, 0 ≤ x ∧ x ≤ 1000000 ∧ x / 2 < c.vars := by
  intro x hx
  have := (List.mem_append.1 hx).elim (hv.next x) (hv.outs x)
  have h2 := valid_first hv
  unfold litP at this; omega

/-- Two blocks made at the start, kept. -/
structure BoxT (w W : World) (A C : Obj) : Prop where
  bl : Below w.heap.size w W
  a : W.heap[w.heap.size]? = some A
  c : W.heap[w.heap.size + 1]? = some C

theorem BoxT.below {w W W' : World} {A C : Obj} (h : BoxT w W A C) (hb : Below W.heap.size W W') : BoxT w W' A C :=
  ⟨h.bl.trans (hb.mono h.bl.size), blk_below hb (blk_lt h.a) h.a, blk_below hb (blk_lt h.c) h.c⟩

theorem BoxT.new (w : World) (A C : Obj) : BoxT w ((w.alloc A).alloc C) A C :=
  ⟨((Below.refl _ _).alloc (Nat.le_refl _) _).alloc (by simp) _, blk_old (blk_new w A), blk_at (by simp)⟩

set_option maxHeartbeats 400000 in
theorem l4Same_any (s t : Option Addr) (xs ys : List Bool) (n cap cap2 : Nat) (w : World) (hs : Sl w s (bools xs)) (ht : Sl w t (bools ys)) (hl : xs.length = n) (hl2 : ys.length = n) (hn : n ≤ 1000) :
    Calls Try.prog 90 #[.slice s n cap, .slice t n cap2] w fun e w' => e = .returned (.bool (decide (xs = ys))) ∧ Drew w w' := by
  have HS := Lib.hid (And.intro hs (And.intro ht (And.intro hl hl2)))
  clear hs ht hl hl2
  go_enter Try.func90, Try.ntmps90
  go_wp2
  go_loopw [5] (fun i wr => ∃ k : Nat, k ≤ n ∧ i = .int .i64 k ∧ xs.take k = ys.take k ∧ Drew w wr) (fun i _ => n - (intOf i).toNat)
  case atStart => exact ⟨0, Nat.zero_le _, rfl, rfl, Drew.refl _⟩
  case round =>
    obtain ⟨k, hk, rfl, htk, hd⟩ := hrel
    have HT : Hid (xs.take k = ys.take k) := htk
    have HD := Lib.hid hd
    clear htk hd
    by_cases hlt : k < n
    · obtain ⟨x, hx⟩ := get_of_lt (l := xs) (k := k) (by have := HS.out.2.2.1; omega)
      obtain ⟨y, hy⟩ := get_of_lt (l := ys) (k := k) (by have := HS.out.2.2.2; omega)
      obtain ⟨b, off, rfl, hbw, hz⟩ := HS.out.1.bool (HD.out.below _) hx
      obtain ⟨b2, off2, rfl, hbw2, hz2⟩ := HS.out.2.1.bool (HD.out.below _) hy
      have HR := Lib.hid (And.intro hx hy)
      clear hx hy
      cases x <;> cases y
      all_goals
        go_wp2
        go_quiet (fail)
        go_wp2
        obtain ⟨hx, hy⟩ := HR.out
        first
          | (go_roundw
             case rel => exact ⟨k + 1, by omega, by go_num, by rw [List.take_add_one, List.take_add_one, HT.out, hx, hy], HD.out.n _⟩
             case measure => simp [intOf]; omega)
          | (go_ret
             refine ⟨ret_bool ?_, HD.out.n _⟩
             symm; rw [decide_eq_false_iff_not]; intro e; subst e; rw [hx] at hy; simp at hy)
    · obtain rfl : k = n := by omega
      have he : decide (xs = ys) = true := by
        have h1 := HT.out
        rw [List.take_of_length_le (by have := HS.out.2.2.1; omega), List.take_of_length_le (by have := HS.out.2.2.2; omega)] at h1
        simpa using h1
      have HE := Lib.hid he
      clear he
      go_wp2
      go_ret
      exact ⟨ret_bool HE.out.symm, HD.out⟩

def numB : List Bool → Int
  | [] => 0
  | b :: bs => (if b then 1 else 0) + 2 * numB bs

theorem numB_bd : ∀ bs : List Bool, 0 ≤ numB bs ∧ numB bs < 2 ^ bs.length
  | [] => by simp [numB]
  | b :: bs => by
    have := numB_bd bs
    unfold numB
    rw [List.length_cons, Int.pow_succ]
    cases b <;> simp <;> omega

theorem numB_snoc : ∀ (bs : List Bool) (b : Bool), numB (bs ++ [b]) = numB bs + (if b then 2 ^ bs.length else 0)
  | [], b => by cases b <;> simp [numB]
  | a :: bs, b => by
    have := numB_snoc bs b
    show (if a then 1 else 0) + 2 * numB (bs ++ [b]) = (if a then 1 else 0) + 2 * numB bs + _
    rw [this, List.length_cons, Int.pow_succ]
    cases b <;> simp <;> omega

theorem numB_drop {bs : List Bool} {k : Nat} {b : Bool} (h : bs[k]? = some b) : numB (bs.drop k) = (if b then 1 else 0) + 2 * numB (bs.drop (k + 1)) := by
  obtain ⟨hk, rfl⟩ := List.getElem?_eq_some_iff.1 h
  rw [List.drop_eq_getElem_cons hk]; rfl

theorem or_pow (n i : Nat) (hi : i ≤ 4) (hn : n < 2 ^ i) : bits .or .i64 (n : Int) (2 ^ i) = (n : Int) + 2 ^ i := by
  have h : ∀ i : Fin 5, ∀ n : Fin 16, n.val < 2 ^ i.val → bits .or .i64 ((n.val : Nat) : Int) (2 ^ i.val) = ((n.val : Nat) : Int) + 2 ^ i.val := by decide +kernel
  have hp : 2 ^ i ≤ 2 ^ 4 := Nat.pow_le_pow_right (by omega) hi
  exact h ⟨i, by omega⟩ ⟨n, by omega⟩ hn

set_option maxHeartbeats 800000 in
theorem number_any (s : Option Addr) (cap : Nat) (bs : List Bool) (w : World) (h : Sl w s (bools bs)) (hl : bs.length ≤ 4) :
    Calls Try.prog 140 #[.slice s bs.length cap] w fun e w' => e = .returned (.int .i64 (numB bs)) ∧ w = w' := by
  have H := Lib.hid h
  clear h
  go_enter Try.func140, Try.ntmps140
  go_wp2
  go_loopw [3, 8] (fun x i wr => ∃ k : Nat, k ≤ bs.length ∧ i = .int .i64 k ∧ x = .int .i64 (numB (bs.take k)) ∧ w = wr) (fun _ i _ => bs.length - (intOf i).toNat)
  case atStart => exact ⟨0, Nat.zero_le _, rfl, rfl, rfl⟩
  case round =>
    obtain ⟨k, hk, rfl, rfl, rfl⟩ := hrel
    by_cases hlt : k < bs.length
    · obtain ⟨b, hb⟩ := get_of_lt hlt
      obtain ⟨sb, off, rfl, hbw, hz⟩ := H.out.bool (Below.refl _ _) hb
      have hlk : (bs.take k).length = k := by simp; omega
      have hbd := numB_bd (bs.take k)
      rw [hlk] at hbd
      have hsn := numB_snoc (bs.take k) b
      rw [hlk] at hsn
      have htk : bs.take (k + 1) = bs.take k ++ [b] := by rw [List.take_add_one, hb]; rfl
      rw [← htk] at hsn
      obtain ⟨n, hn⟩ : ∃ n : Nat, numB (bs.take k) = n := ⟨(numB (bs.take k)).toNat, by omega⟩
      rw [hn] at hsn hbd ⊢
      have hn2 : n < 2 ^ k := by have := hbd.2; exact_mod_cast this
      have hor := or_pow n k (by omega) hn2
      have hwp : wrap64 (2 ^ k) = 2 ^ k := wrap_pow (by omega)
      have HR := Lib.hid (And.intro hsn hb)
      clear hsn hb hbd hlk htk hn hn2 hbw
      cases b
      · go_wp2
        go_roundw
        case rel => exact ⟨k + 1, by omega, by go_num, by rw [HR.out.1]; simp⟩
        case measure => first | (simp [intOf]; done) | (simp [intOf]; omega)
      · go_wp2
        go_roundw
        case rel => exact ⟨k + 1, by omega, by go_num, by rw [HR.out.1]; simp⟩
        case measure => first | (simp [intOf]; done) | (simp [intOf]; omega)
    · obtain rfl : k = bs.length := by omega
      rw [List.take_length]
      go_wp2
      go_ret
      exact ⟨rfl, rfl⟩

set_option maxHeartbeats 800000 in
theorem l16Number_any (s : Option Addr) (cap : Nat) (bs : List Bool) (w : World) (h : Sl w s (bools bs)) (hl : bs.length ≤ 4) :
    Calls Try.prog 138 #[.slice s bs.length cap] w fun e w' => e = .returned (.int .i64 (numB bs)) ∧ w = w' := by
  have H := Lib.hid h
  clear h
  go_enter Try.func138, Try.ntmps138
  go_wp2
  go_loopw [3, 4] (fun x i wr => ∃ k : Nat, k ≤ bs.length ∧ i = .int .i64 ((k : Int) - 1) ∧ x = .int .i64 (numB (bs.drop k)) ∧ w = wr) (fun _ i _ => (intOf i + 1).toNat)
  case atStart => exact ⟨bs.length, Nat.le_refl _, rfl, by simp [numB], rfl⟩
  case round =>
    obtain ⟨k, hk, rfl, rfl, rfl⟩ := hrel
    have hbd := numB_bd (bs.drop k)
    have hpw : (2 : Int) ^ (bs.drop k).length ≤ 2 ^ 4 := by
      have := Nat.pow_le_pow_right (show 0 < 2 by omega) (show (bs.drop k).length ≤ 4 by simp; omega)
      exact_mod_cast this
    obtain ⟨N, hN⟩ : ∃ N, N = numB (bs.drop k) := ⟨_, rfl⟩
    rw [← hN] at hbd ⊢
    have n0 : 0 ≤ N := hbd.1
    have n1 : N ≤ 16 := by have := hbd.2; omega
    have HN := Lib.hid hN
    clear hbd hpw hN
    cases k with
    | zero =>
      go_wp2
      go_ret
      exact ⟨ret_int (by rw [HN.out]; simp), rfl⟩
    | succ k =>
      obtain ⟨b, hb⟩ := get_of_lt (l := bs) (k := k) (by omega)
      obtain ⟨sb, off, rfl, hbw, hz⟩ := H.out.bool (Below.refl _ _) hb
      have hsn := numB_drop hb
      have HR := Lib.hid hsn
      clear hsn hb hbw
      have e1 : ((k + 1 : Nat) : Int) - 1 = (k : Int) := by omega
      rw [e1]
      cases b
      · go_wp2
        go_roundw
        case rel => exact ⟨k, by omega, by go_num, by rw [HR.out, HN.out]; simp⟩
        case measure => first | (simp [intOf]; done) | (simp [intOf]; omega)
      · go_wp2
        go_roundw
        case rel => exact ⟨k, by omega, by go_num, by rw [HR.out, HN.out]; simp; omega⟩
        case measure => first | (simp [intOf]; done) | (simp [intOf]; omega)

theorem CirOwn.toV {w : World} {base : Nat} {c : Cir} {vn vg vo : Value} (h : CirOwn w base c vn vg vo) : CirV w (.agg #[.int .i64 c.inp, vn, vg, vo]) c := by
  obtain ⟨sn, cn, rfl⟩ := own_shape h.n
  obtain ⟨sg, cg, rfl⟩ := own_shape h.g
  obtain ⟨so, co, rfl⟩ := own_shape h.o
  exact ⟨_, _, _, _, _, _, rfl, own_sl h.n, own_sl h.g, own_sl h.o, h.l1, h.l2, h.l3⟩

set_option maxRecDepth 100000 in
set_option maxHeartbeats 1600000 in
theorem Optimize_s (v : Value) (c : Cir) (w : World) (h : CirV w v c) :
    Calls Try.prog 111 #[v] w fun e w' => ∃ vn vg vo, e = .returned (.agg #[.int .i64 (optR c).inp, vn, vg, vo]) ∧ CirOwn w' w.heap.size (optR c) vn vg vo ∧ Below w.heap.size w w' := by
  have HG := Lib.hid h
  obtain ⟨sn, cn, sg, cg, so, co, rfl, -, -, -, -, -, -⟩ := h
  obtain ⟨W0, hW0⟩ : ∃ W0, W0 = (w.alloc (.cells #[.int .i64 c.inp, .slice sn c.next.length cn, .slice sg c.gates.length cg, .slice so c.outs.length co] 26)).alloc (.cells #[.int .i64 0, .slice none 0 0, .slice none 0 0, .slice none 0 0] 26) := ⟨_, rfl⟩
  obtain ⟨A, hA⟩ : ∃ A, A = w.heap.size := ⟨_, rfl⟩
  have z1 : W0.heap.size = A + 2 := by rw [hW0, hA]; simp
  have z2 : W0.heap[A]? = some (.cells #[.int .i64 c.inp, .slice sn c.next.length cn, .slice sg c.gates.length cg, .slice so c.outs.length co] 26 (0, 0)) := by rw [hW0, hA]; exact blk_old (blk_new w _)
  have z3 : W0.heap[A + 1]? = some (.cells #[.int .i64 0, .slice none 0 0, .slice none 0 0, .slice none 0 0] 26 (0, 0)) := by rw [hW0, hA]; exact blk_at (by simp)
  have z4 : Below w.heap.size w W0 := by rw [hW0]; exact ((Below.refl _ _).alloc (Nat.le_refl _) _).alloc (by simp) _
  have HW := Lib.hid (And.intro hW0 (And.intro hA z1))
  have HB : Hid (∀ W, Below W0.heap.size W0 W → (∀ o, W.cell? ⟨A, o, none⟩ = #[Value.int .i64 c.inp, .slice sn c.next.length cn, .slice sg c.gates.length cg, .slice so c.outs.length co][o]?) ∧ W.heap[A + 1]? = some (.cells #[.int .i64 0, .slice none 0 0, .slice none 0 0, .slice none 0 0] 26 (0, 0)) ∧ CirV W (.agg #[.int .i64 c.inp, .slice sn c.next.length cn, .slice sg c.gates.length cg, .slice so c.outs.length co]) c ∧ Below w.heap.size w W) := fun W hW => ⟨(blk_all (blk_below hW (by omega) z2)).1, blk_below hW (by omega) z3, HG.out.mono (z4.trans (hW.mono z4.size)), z4.trans (hW.mono z4.size)⟩
  clear hW0 hA z1 z2 z3 z4
  cases hv : c.validB
  · rw [optR_no hv]
    have HV := Lib.hid hv
    clear hv
    go_enter Try.func111, Try.ntmps111
    go_upto_region 1 with fail
    rw [← HW.out.1, ← HW.out.2.1]
    have cb := (HB.out _ (Below.refl _ _)).1
    go_upto_region 2 with (go_at_call 42; ((with_reducible refine (CircuitValid_s _ c _ (HB.out _ (Below.refl _ _)).2.2.1).mono ?_); rintro e w1 ⟨rfl, hq⟩; rw [HV.out]; have H1 := Lib.hid hq; clear hq cb; obtain ⟨rc, rf⟩ := blk_all (HB.out _ H1.out).2.1))
    go_wp2_with fail
    have hZ : ((((w1.setCell ⟨A + 1, 0, none⟩ (.int .i64 0)).setCell ⟨A + 1, 1, none⟩ (.slice none 0 0)).setCell ⟨A + 1, 2, none⟩ (.slice none 0 0)).setCell ⟨A + 1, 3, none⟩ (.slice none 0 0)).heap[A + 1]? = some (.cells #[.int .i64 0, .slice none 0 0, .slice none 0 0, .slice none 0 0] 26 (0, 0)) := by
      simpa using blk_set (o := 3) (v := .slice none 0 0) (blk_set (o := 2) (v := .slice none 0 0) (blk_set (o := 1) (v := .slice none 0 0) (blk_set (o := 0) (v := .int .i64 0) (HB.out _ H1.out).2.1)))
    have hA2 := HW.out.2.1
    have hbz := ((((HB.out _ H1.out).2.2.2.setCell (p := ⟨A + 1, 0, none⟩) (by simp; omega) (.int .i64 0)).setCell (p := ⟨A + 1, 1, none⟩) (by simp; omega) (.slice none 0 0)).setCell (p := ⟨A + 1, 2, none⟩) (by simp; omega) (.slice none 0 0)).setCell (p := ⟨A + 1, 3, none⟩) (by simp; omega) (.slice none 0 0)
    clear rc rf
    revert hZ hbz
    generalize ((((w1.setCell ⟨A + 1, 0, none⟩ (.int .i64 0)).setCell ⟨A + 1, 1, none⟩ (.slice none 0 0)).setCell ⟨A + 1, 2, none⟩ (.slice none 0 0)).setCell ⟨A + 1, 3, none⟩ (.slice none 0 0)) = WZ
    intro hZ hbz
    have cr := (blk_all hZ).1
    exact bodyPost_ret (v := .agg #[.int .i64 0, .slice none 0 0, .slice none 0 0, .slice none 0 0]) (by simp [results, Try.results111, go_sem, cr]) rfl ⟨_, _, _, rfl, ⟨World.ownsRow_nil _ _ _ _, World.ownsRow_nil _ _ _ _, World.ownsRow_nil _ _ _ _, fun k h => by simp [Value.ownBlock] at h, by simp, by simp, by simp⟩, hbz⟩
  · rw [optR_yes hv]
    have HV := Lib.hid hv
    have hvv := c.validB_iff.1 hv
    have HVV := Lib.hid (And.intro hvv (buildC_valid hvv true))
    clear hv hvv
    go_enter Try.func111, Try.ntmps111
    go_upto_region 1 with fail
    rw [← HW.out.1, ← HW.out.2.1]
    have cb := (HB.out _ (Below.refl _ _)).1
    go_wp2_with (first
      | (go_at_call 42; ((with_reducible refine (CircuitValid_s _ c _ (HB.out _ (Below.refl _ _)).2.2.1).mono ?_); rintro e w1 ⟨rfl, hq⟩; rw [HV.out]; have H1 := Lib.hid hq; clear hq cb; have cb := (HB.out _ H1.out).1))
      | (go_at_call 146; ((with_reducible refine (l3Build_any _ c true _ (HB.out _ H1.out).2.2.1 HVV.out.1).mono ?_); rintro e w2 ⟨vn, vg, vo, rfl, ho, hq⟩; have H2 := Lib.hid (And.intro ho (H1.out.trans (hq.mono H1.out.size))); clear hq ho cb))
      | (go_at_call 146; ((with_reducible refine (l3Build_any _ (buildC true c) false _ (show CirV _ (.agg #[.int .i64 c.inp, vn, vg, vo]) (buildC true c) from H2.out.1.toV) HVV.out.2).mono ?_); rintro e w3 ⟨vn3, vg3, vo3, rfl, ho, hq⟩; rw [show (buildC true c).inp = c.inp from rfl]; obtain ⟨sn3, cn3, rfl⟩ := own_shape ho.n; obtain ⟨sg3, cg3, rfl⟩ := own_shape ho.g; obtain ⟨so3, co3, rfl⟩ := own_shape ho.o; have H3 := Lib.hid (And.intro ho (H2.out.2.trans (hq.mono H2.out.2.size))); obtain ⟨rc, rf⟩ := blk_all (HB.out _ H3.out.2).2.1; have HSZ := Lib.hid (show A + 2 ≤ w2.heap.size by have h1 := H2.out.2.size; have h2 := HW.out.2.2; omega); clear hq ho)))
    have hA2 := HW.out.2.1
    have hR := (HB.out _ H3.out.2).2.1
    have hO := (H3.out.1).sets4 (r := A + 1) (by have := HSZ.out; omega) (base := w.heap.size) (by have := HSZ.out; omega) (a := .int .i64 c.inp) (b' := .slice sn3 (buildC false (buildC true c)).next.length cn3) (c' := .slice sg3 (buildC false (buildC true c)).gates.length cg3) (d := .slice so3 (buildC false (buildC true c)).outs.length co3)
    have hZ : ((((w3.setCell ⟨A + 1, 0, none⟩ (.int .i64 c.inp)).setCell ⟨A + 1, 1, none⟩ (.slice sn3 (buildC false (buildC true c)).next.length cn3)).setCell ⟨A + 1, 2, none⟩ (.slice sg3 (buildC false (buildC true c)).gates.length cg3)).setCell ⟨A + 1, 3, none⟩ (.slice so3 (buildC false (buildC true c)).outs.length co3)).heap[A + 1]? = some (.cells #[.int .i64 c.inp, .slice sn3 (buildC false (buildC true c)).next.length cn3, .slice sg3 (buildC false (buildC true c)).gates.length cg3, .slice so3 (buildC false (buildC true c)).outs.length co3] 26 (0, 0)) := by
      simpa using blk_set (o := 3) (v := .slice so3 (buildC false (buildC true c)).outs.length co3) (blk_set (o := 2) (v := .slice sg3 (buildC false (buildC true c)).gates.length cg3) (blk_set (o := 1) (v := .slice sn3 (buildC false (buildC true c)).next.length cn3) (blk_set (o := 0) (v := .int .i64 c.inp) hR)))
    have hbz := ((((HB.out _ H3.out.2).2.2.2.setCell (p := ⟨A + 1, 0, none⟩) (by simp; omega) (.int .i64 c.inp)).setCell (p := ⟨A + 1, 1, none⟩) (by simp; omega) (.slice sn3 (buildC false (buildC true c)).next.length cn3)).setCell (p := ⟨A + 1, 2, none⟩) (by simp; omega) (.slice sg3 (buildC false (buildC true c)).gates.length cg3)).setCell (p := ⟨A + 1, 3, none⟩) (by simp; omega) (.slice so3 (buildC false (buildC true c)).outs.length co3)
    clear rc rf
    revert hZ hbz hO
    generalize ((((w3.setCell ⟨A + 1, 0, none⟩ (.int .i64 c.inp)).setCell ⟨A + 1, 1, none⟩ (.slice sn3 (buildC false (buildC true c)).next.length cn3)).setCell ⟨A + 1, 2, none⟩ (.slice sg3 (buildC false (buildC true c)).gates.length cg3)).setCell ⟨A + 1, 3, none⟩ (.slice so3 (buildC false (buildC true c)).outs.length co3)) = WZ
    intro hO hZ hbz
    have cr := (blk_all hZ).1
    exact bodyPost_ret (v := .agg #[.int .i64 c.inp, .slice sn3 (buildC false (buildC true c)).next.length cn3, .slice sg3 (buildC false (buildC true c)).gates.length cg3, .slice so3 (buildC false (buildC true c)).outs.length co3]) (by simp [results, Try.results111, go_sem, cr]) rfl ⟨_, _, _, rfl, hO, hbz⟩

end Go.Proofs.Ytbcolcchchgldaa
