import Derived.Test.YtaboipnigeaopaaV2
import Derived.Test.YtaboipnigeaopaaQ1
import Derived.Test.YtaboipnigeaopaaA4
import Derived.Test.YtaboipnigeaopaaL4
import Derived.Laws.BytesArg
namespace Go.Proofs.Ytaboipnigeaopaa
set_option linter.unusedVariables false
set_option linter.unusedSimpArgs false
open Go.RowKit

/-! Values of a circuit's variables: the reference's walks. -/

theorem l2Lit_any (s : Option Addr) (vs : List Bool) (cap : Nat) (l : Int) (w : World) (h : Sl w s (bools vs)) (h0 : 0 ≤ l) (h1 : l ≤ 1000000) (h2 : l / 2 < vs.length) :
    Calls Try.prog 92 #[.slice s vs.length cap, .int .i64 l] w fun e w' => e = .returned (.bool (litB vs l)) ∧ w = w' := by
  obtain ⟨p, hp⟩ : ∃ p : Nat, l / 2 = p := ⟨(l / 2).toNat, by omega⟩
  have p2 : p < vs.length := by omega
  obtain ⟨x, hx⟩ := get_of_lt p2
  obtain ⟨b, off, rfl, hbw, hz⟩ := h.bool (Below.refl _ _) hx
  rw [litB_eq hp hx]
  have H := Lib.hid (And.intro h hx)
  clear h hx h2
  go_enter Try.func92, Try.ntmps92
  go_wp2
  go_ret
  exact ⟨rfl, rfl⟩

set_option maxHeartbeats 400000 in
theorem l4Bits_any (x : Int) (n : Nat) (w : World) (h0 : 0 ≤ x) (h1 : x ≤ 1000000) (hn : n ≤ 20) :
    Calls Try.prog 74 #[.int .i64 x, .int .i64 n] w fun e w' => ∃ s c, e = .returned (.slice s n c) ∧ Sl w' s (bools (bitsV x n)) ∧ Below w.heap.size w w' := by
  have hA : Below w.heap.size w (w.alloc (.cells #[] 4)) := (Below.refl _ _).alloc (Nat.le_refl _) _
  have ho : (w.alloc (.cells #[] 4)).ownsRow w.heap.size 4 1 (.slice (some ⟨w.heap.size, 0, none⟩) 0 0) 0 [] := own_of_blk (n := 0) (cur := #[]) (blk_new w _) (Nat.le_refl _) (by simp) (by unfold maxLen; omega)
  have HO := Lib.hid (And.intro ho hA)
  clear ho hA
  go_enter Try.func74, Try.ntmps74
  go_wp2
  revert HO
  generalize w.alloc (.cells #[] 4) = WA
  intro HO
  go_loopw [6, 5] (fun i v wr => ∃ (k : Nat) (s : Option Addr) (c : Nat), k ≤ n ∧ i = .int .i64 k ∧ v = .slice s k c ∧ wr.ownsRow w.heap.size 4 1 v k (bools (bitsV x k)) ∧ Below w.heap.size w wr) (fun i _ _ => n - (intOf i).toNat)
  case atStart => exact ⟨0, _, _, Nat.zero_le _, rfl, rfl, HO.out.1, HO.out.2⟩
  case round =>
    obtain ⟨k, so, c, hk, rfl, rfl, ho, hbl⟩ := hrel
    by_cases hlt : k < n
    · have hpw : (1 : Int) ≤ 2 ^ k := by have : (0 : Int) < 2 ^ k := Int.pow_pos (by decide); omega
      have q1 : 0 ≤ x / 2 ^ k := Int.ediv_nonneg h0 (by omega)
      have q2 : x / 2 ^ k ≤ 1000000 := Int.le_trans (Int.ediv_le_self _ h0) h1
      have hbs := hbl.size
      have HR := Lib.hid (And.intro ho (And.intro hbl hpw))
      clear ho hbl hpw
      go_wp2_with (at_builtin; refine wpl_app rfl _ _ rfl elem_bool (own_below HR.out.1 ((Below.refl _ _).alloc (Nat.le_refl _) _)) rfl rfl rfl (Sl.new _ _ _) (by simp [Value.oneCell']) (k + 1) rfl _ rfl (by unfold maxLen; omega) (by omega) (by simp; omega) ?_; intro s3 c3 w3 h3 hb3 _ _; have HA := Lib.hid (And.intro h3 hb3); clear h3 hb3)
      go_roundw
      case rel =>
        refine ⟨k + 1, s3, c3, by omega, by go_num, rfl, ?_, (HR.out.2.1.alloc hbs _).trans HA.out.2⟩
        have e := HA.out.1
        rw [bitsV_snoc]
        unfold bools at *
        rw [List.map_append]
        exact e
      case measure => simp [intOf]; omega
    · obtain rfl : k = n := by omega
      have HR := Lib.hid (And.intro ho hbl)
      clear ho hbl
      go_wp2
      go_ret
      exact ⟨_, _, rfl, own_sl HR.out.1, HR.out.2⟩

set_option maxHeartbeats 400000 in
theorem l2Lits_any (s t : Option Addr) (vs : List Bool) (cap capl : Nat) (xs : List Int) (w : World) (h : Sl w s (bools vs)) (ht : Sl w t (ints xs)) (hx : ∀ x ∈ xs, 0 ≤ x ∧ x ≤ 1000000 ∧ x / 2 < vs.length) (hl : xs.length ≤ 1000) :
    Calls Try.prog 89 #[.slice s vs.length cap, .slice t xs.length capl] w fun e w' => ∃ s c, e = .returned (.slice s xs.length c) ∧ Sl w' s (bools (xs.map (litB vs))) ∧ Below w.heap.size w w' := by
  have H := Lib.hid (And.intro h (And.intro ht hx))
  clear h ht hx
  have hA : Below w.heap.size w (w.alloc (.cells #[] 4)) := (Below.refl _ _).alloc (Nat.le_refl _) _
  have ho : (w.alloc (.cells #[] 4)).ownsRow w.heap.size 4 1 (.slice (some ⟨w.heap.size, 0, none⟩) 0 0) 0 [] := own_of_blk (n := 0) (cur := #[]) (blk_new w _) (Nat.le_refl _) (by simp) (by unfold maxLen; omega)
  have HO := Lib.hid (And.intro ho hA)
  clear ho hA
  go_enter Try.func89, Try.ntmps89
  go_wp2
  revert HO
  generalize w.alloc (.cells #[] 4) = WA
  intro HO
  go_loopw [6, 5] (fun i v wr => ∃ (k : Nat) (s : Option Addr) (c : Nat), k ≤ xs.length ∧ i = .int .i64 k ∧ v = .slice s k c ∧ wr.ownsRow w.heap.size 4 1 v k (bools ((xs.take k).map (litB vs))) ∧ Below w.heap.size w wr) (fun i _ _ => xs.length - (intOf i).toNat)
  case atStart => exact ⟨0, _, _, Nat.zero_le _, rfl, rfl, by simpa [bools] using HO.out.1, HO.out.2⟩
  case round =>
    obtain ⟨k, so, c, hk, rfl, rfl, ho, hbl⟩ := hrel
    by_cases hlt : k < xs.length
    · obtain ⟨x, hx⟩ := get_of_lt hlt
      obtain ⟨b, off, rfl, hbw, hz⟩ := H.out.2.1.int hbl hx
      obtain ⟨x0, x1, x2⟩ := H.out.2.2 x (List.mem_of_getElem? hx)
      have hbs := hbl.size
      have HR := Lib.hid (And.intro ho (And.intro hbl hx))
      clear ho hbl hx
      go_wp2_with (first
        | (go_at_call 92; ((refine (l2Lit_any _ _ _ _ _ (H.out.1.mono HR.out.2.1) x0 x1 x2).mono ?_); rintro e w' ⟨rfl, rfl⟩))
        | (at_builtin; refine wpl_app rfl _ _ rfl elem_bool (own_below HR.out.1 ((Below.refl _ _).alloc (Nat.le_refl _) _)) rfl rfl rfl (Sl.new _ _ _) (by simp [Value.oneCell']) (k + 1) rfl _ rfl (by unfold maxLen; omega) (by omega) (by simp; omega) ?_; intro s3 c3 w3 h3 hb3 _ _; have HA := Lib.hid (And.intro h3 hb3); clear h3 hb3))
      obtain ⟨ho, hbl, hx⟩ := HR.out
      go_roundw
      case rel =>
        refine ⟨k + 1, s3, c3, by omega, by go_num, rfl, ?_, (hbl.alloc hbs _).trans HA.out.2⟩
        have := HA.out.1
        rw [List.take_add_one, hx]
        simpa [bools] using this
      case measure => simp [intOf]; omega
    · obtain rfl : k = xs.length := by omega
      rw [List.take_length] at ho
      have HR := Lib.hid (And.intro ho hbl)
      clear ho hbl
      go_wp2
      go_ret
      exact ⟨_, _, rfl, own_sl HR.out.1, HR.out.2⟩

set_option maxRecDepth 100000 in
set_option maxHeartbeats 800000 in
theorem l2Values_any (v : Value) (c : Cir) (ss si : Option Addr) (cs ci : Nat) (S I : List Bool) (w : World) (h : CirV w v c) (hv : c.valid) (hS : Sl w ss (bools S)) (hI : Sl w si (bools I))
    (lS : S.length = c.next.length) (ni : Nat) (lI : I.length = ni) (li : c.inp = ni) :
    Calls Try.prog 88 #[v, .slice ss c.next.length cs, .slice si ni ci] w fun e w' => ∃ s n cc, e = .returned (.slice s n cc) ∧ n = (valsV (-1) false (false :: (I ++ S)) c.gates).length ∧
      Sl w' s (bools (valsV (-1) false (false :: (I ++ S)) c.gates)) ∧ Below w.heap.size w w' := by
  obtain ⟨sn, cn, sg, cg, so, co, rfl, h1, h2, h3, hl1, hl2, hl3⟩ := h
  obtain ⟨f1, f2, f3, f4⟩ := valid_first hv
  obtain ⟨q1, q2, q3, q4, q5⟩ := id hv.lim
  have eF : c.first = 1 + c.inp + c.next.length := rfl
  have n4 : ni ≤ 4 := by omega
  obtain ⟨F, hF⟩ : ∃ F, F = 1 + ni + c.next.length := ⟨_, rfl⟩
  have eF2 : c.first = (F : Int) := by omega
  have f8 : F ≤ 8 := by omega
  have lB : (false :: (I ++ S)).length = F := by simp; omega
  have lF : 1 + ni + c.next.length ≤ F := by omega
  have H := Lib.hid (And.intro h2 (And.intro hv (And.intro hS (And.intro hI (And.intro lS (And.intro lI (And.intro eF2 (And.intro hF lB))))))))
  have hL : Below w.heap.size w (w.alloc (.cells #[.int .i64 c.inp, .slice sn c.next.length cn, .slice sg c.gates.length cg, .slice so c.outs.length co] 26)) := by go_grown
  have hN := blk_new w (.cells #[.int .i64 c.inp, .slice sn c.next.length cn, .slice sg c.gates.length cg, .slice so c.outs.length co] 26)
  have HL := Lib.hid (And.intro hL hN)
  have hb1 := hL.alloc hL.size (.cells #[.bool false] 4)
  have ho1 : ((w.alloc (.cells #[.int .i64 c.inp, .slice sn c.next.length cn, .slice sg c.gates.length cg, .slice so c.outs.length co] 26)).alloc (.cells #[.bool false] 4)).ownsRow (w.heap.size + 1) 4 1 (.slice (some ⟨w.heap.size + 1, 0, none⟩) 1 1) 1 (bools [false]) :=
    own_of_blk (n := 1) (cur := #[.bool false]) (blk_at (by simp)) (Nat.le_refl _) (by simp) (by unfold maxLen; omega)
  have hn1 := blk_old (o := .cells #[.bool false] 4) hN
  have hz1 : ((w.alloc (.cells #[.int .i64 c.inp, .slice sn c.next.length cn, .slice sg c.gates.length cg, .slice so c.outs.length co] 26)).alloc (.cells #[.bool false] 4)).heap.size = w.heap.size + 2 := by simp
  have H1 := Lib.hid (And.intro hb1 (And.intro ho1 (And.intro hn1 hz1)))
  clear h1 h2 h3 hv hS hI lS lI li f1 f2 f3 f4 q1 q2 q5 eF hF eF2 lB hL hN hb1 ho1 hn1 hz1
  go_enter Try.func88, Try.ntmps88
  go_wp2_with (first
    | (at_builtin; refine wpl_app rfl (.tmp 9) (.tmp 10) rfl elem_bool H1.out.2.1 rfl rfl (by simp [H.out.2.2.2.2.2.1]) (H.out.2.2.2.1.mono H1.out.1) (bools_one _) (1 + ni) rfl (bools ([false] ++ I)) (by rw [bools_append]) (by unfold maxLen; omega) (by omega) (by have := H1.out.2.2.2; omega) ?_; intro s3 c3 w3 h3 hb3 _ _; have HA := Lib.hid (And.intro h3 hb3); clear h3 hb3)
    | (at_builtin; refine wpl_app rfl (.tmp 12) (.tmp 13) rfl elem_bool HA.out.1 rfl rfl (by simp [H.out.2.2.2.2.1]) (H.out.2.2.1.mono (H1.out.1.trans (HA.out.2.mono (Nat.le_succ _)))) (bools_one _) (1 + ni + c.next.length) rfl (bools ([false] ++ I ++ S)) (by rw [bools_append]) (by unfold maxLen; omega) (by omega) (by have := H1.out.2.2.2; have := HA.out.2.size; omega) ?_; intro s4 c4 w4 h4 hb4 _ _; have HB := Lib.hid (And.intro h4 hb4); clear h4 hb4))
  have hb := HA.out.2.trans HB.out.2
  have ho := HB.out.1
  clear HA HB
  revert H1 hb
  generalize ((w.alloc (.cells #[.int .i64 c.inp, .slice sn c.next.length cn, .slice sg c.gates.length cg, .slice so c.outs.length co] 26)).alloc (.cells #[.bool false] 4)) = W1
  intro H1 hb
  obtain ⟨B0, hB0⟩ : ∃ B0, B0 = false :: (I ++ S) := ⟨_, rfl⟩
  have e1 : [false] ++ I ++ S = B0 := by rw [hB0]; simp
  rw [e1, ← H.out.2.2.2.2.2.2.2.1] at ho
  have eN : 1 + ni + c.next.length = F := H.out.2.2.2.2.2.2.2.1.symm
  rw [eN]
  have lB : B0.length = F := by rw [hB0]; exact H.out.2.2.2.2.2.2.2.2
  have HX := Lib.hid (And.intro hb (And.intro ho (And.intro hB0 lB)))
  clear hb ho hB0 lB e1 eN lF
  go_loopw [8, 7] (fun i v wr => ∃ (k : Nat) (s : Option Addr) (cc : Nat), k ≤ c.gates.length ∧ i = .int .i64 k ∧ v = .slice s (F + k) cc ∧ wr.ownsRow (w.heap.size + 1) 4 1 v (F + k) (bools (valsV (-1) false B0 (c.gates.take k))) ∧ Below (w.heap.size + 1) W1 wr) (fun i _ _ => c.gates.length - (intOf i).toNat)
  case atStart => exact ⟨0, _, _, Nat.zero_le _, rfl, rfl, by simpa [valsV] using HX.out.2.1, HX.out.1⟩
  case round =>
    obtain ⟨k, s7, c7, hk, rfl, rfl, ho, hbl⟩ := hrel
    have hbw : Below w.heap.size w wr := H1.out.1.trans (hbl.mono (Nat.le_succ _))
    have hcb := (blk_all (blk_below hbl (Nat.lt_succ_self _) H1.out.2.2.1)).1
    have hsz : w.heap.size + 2 ≤ wr.heap.size := by have h1 := hbl.size; have h2 := H1.out.2.2.2; omega
    by_cases hlt : k < c.gates.length
    · obtain ⟨g, hg⟩ := get_of_lt hlt
      obtain ⟨gb, off, rfl, hbw2, z1, z2⟩ := H.out.1.gate hbw hg
      obtain ⟨⟨a1, a2⟩, b1, b2⟩ := valid_gate H.out.2.1 hg
      have hfF := H.out.2.2.2.2.2.2.1
      have a3 : g.a / 2 < F + k := by omega
      have b3 : g.b / 2 < F + k := by omega
      have a4 : g.a ≤ 1000000 := by omega
      have b4 : g.b ≤ 1000000 := by omega
      obtain ⟨P, hP⟩ : ∃ P, P = valsV (-1) false B0 (c.gates.take k) := ⟨_, rfl⟩
      have lP : P.length = F + k := by rw [hP, valsV_length, HX.out.2.2.2, List.length_take]; omega
      rw [← hP] at ho
      have hsn : valsV (-1) false B0 (c.gates.take (k + 1)) = P ++ [litB P g.a && litB P g.b] := by
        rw [valsV_snoc hg, ← hP]
        unfold stepV
        rw [if_neg (by omega)]
      have hlv : ∀ l : Int, 0 ≤ l → l ≤ 1000000 → l / 2 < F + k → Calls Try.prog 92 #[.slice s7 (F + k) c7, .int .i64 l] wr fun e w' => e = .returned (.bool (litB P l)) ∧ wr = w' := fun l h0 h1 h2 => by
        have := l2Lit_any s7 P c7 l wr (own_sl ho) h0 h1 (by rw [lP]; omega)
        rw [lP] at this
        exact this
      have HQ := Lib.hid (And.intro hlv (And.intro hsn (And.intro ho (And.intro hbl hP))))
      clear hlv hsn ho hbl hP lP hg hfF a2 b2 hbw hbw2
      obtain ⟨va, hva⟩ : ∃ va, va = litB P g.a := ⟨_, rfl⟩
      obtain ⟨vb, hvb⟩ : ∃ vb, vb = litB P g.b := ⟨_, rfl⟩
      have HV := Lib.hid (And.intro hva hvb)
      clear hva hvb
      cases va
      · go_wp2_with (first
          | (go_at_call 92; ((with_reducible refine (HQ.out.1 _ a1 a4 a3).mono ?_); rintro e w3 ⟨rfl, rfl⟩; rw [← HV.out.1]))
          | (at_builtin; refine wpl_app rfl _ _ rfl elem_bool (own_below HQ.out.2.2.1 ((Below.refl _ _).alloc (Nat.le_refl _) _)) rfl rfl rfl (Sl.new _ _ _) (by simp [Value.oneCell']) (F + k + 1) rfl _ rfl (by unfold maxLen; omega) (by omega) (by simp; omega) ?_; intro s3 c3 w3 h3 hb3 _ _; have HA := Lib.hid (And.intro h3 hb3); clear h3 hb3))
        go_roundw
        case rel =>
          refine ⟨k + 1, s3, c3, by omega, by go_num, rfl, ?_, (HQ.out.2.2.2.1.alloc (by omega) _).trans HA.out.2⟩
          have e := HA.out.1
          rw [HQ.out.2.1, ← HV.out.1]
          unfold bools at *
          rw [List.map_append]
          exact e
        case measure => simp [intOf]; omega
      · go_wp2_with (first
          | (go_at_call 92; ((with_reducible refine (HQ.out.1 _ a1 a4 a3).mono ?_); rintro e w3 ⟨rfl, rfl⟩; rw [← HV.out.1]))
          | (go_at_call 92; ((with_reducible refine (HQ.out.1 _ b1 b4 b3).mono ?_); rintro e w3 ⟨rfl, rfl⟩; rw [← HV.out.2]))
          | (at_builtin; refine wpl_app rfl _ _ rfl elem_bool (own_below HQ.out.2.2.1 ((Below.refl _ _).alloc (Nat.le_refl _) _)) rfl rfl rfl (Sl.new _ _ _) (by simp [Value.oneCell']) (F + k + 1) rfl _ rfl (by unfold maxLen; omega) (by omega) (by simp; omega) ?_; intro s3 c3 w3 h3 hb3 _ _; have HA := Lib.hid (And.intro h3 hb3); clear h3 hb3))
        go_roundw
        case rel =>
          refine ⟨k + 1, s3, c3, by omega, by go_num, rfl, ?_, (HQ.out.2.2.2.1.alloc (by omega) _).trans HA.out.2⟩
          have e := HA.out.1
          rw [HQ.out.2.1, ← HV.out.1, ← HV.out.2]
          unfold bools at *
          rw [List.map_append]
          exact e
        case measure => simp [intOf]; omega
    · obtain rfl : k = c.gates.length := by omega
      rw [List.take_length, HX.out.2.2.1] at ho
      have HR := Lib.hid (And.intro ho hbw)
      clear ho hbl hbw
      go_wp2
      go_ret
      exact ⟨_, _, _, rfl, by rw [valsV_length, H.out.2.2.2.2.2.2.2.2], own_sl HR.out.1, HR.out.2⟩

/-! Functions of variables: equal, opposite. The reference's walks. -/

def colV (c : Cir) (p : Nat) (x : Nat) : Bool := (evalV c (x : Int) (-1) false).getD p false
def eqAll (f g : Nat → Bool) (N : Nat) : Bool := (List.range N).all fun x => f x == g x
def neAll (f g : Nat → Bool) (N : Nat) : Bool := (List.range N).all fun x => f x != g x
theorem eqAll_succ (f g : Nat → Bool) (N : Nat) : eqAll f g (N + 1) = (eqAll f g N && (f N == g N)) := by simp [eqAll, List.range_succ]
theorem neAll_succ (f g : Nat → Bool) (N : Nat) : neAll f g (N + 1) = (neAll f g N && (f N != g N)) := by simp [neAll, List.range_succ]
def sameV (c : Cir) (p q : Nat) : Int := if eqAll (colV c p) (colV c q) (asgN c) then 1 else if neAll (colV c p) (colV c q) (asgN c) then -1 else 0
theorem beq_nbne (x y : Bool) : (x == y) = ((!x) != y) := by cases x <;> cases y <;> rfl
theorem bne_nbeq (x y : Bool) : (x != y) = ((!x) == y) := by cases x <;> cases y <;> rfl
theorem colV_get {c : Cir} {p x : Nat} {y : Bool} (h : (evalV c (x : Int) (-1) false)[p]? = some y) : colV c p x = y := by
  unfold colV; rw [List.getD_eq_getElem?_getD, h]; rfl
theorem Sl.bool2 {w wr : World} {s : Option Addr} {xs : List Bool} (h : Sl w s (bools xs)) (hbl : Below w.heap.size w wr) {j k : Nat} {x y : Bool} (hx : xs[j]? = some x) (hy : xs[k]? = some y) :
    ∃ b off, s = some ⟨b, off, none⟩ ∧ b < w.heap.size ∧ wr.cell? ⟨b, off + j, none⟩ = some (.bool x) ∧ wr.cell? ⟨b, off + k, none⟩ = some (.bool y) := by
  have hlt : j < xs.length := (List.getElem?_eq_some_iff.1 hx).1
  obtain ⟨b, off, rfl, hbw, hcs⟩ := h.at (k := j) (by simpa using hlt)
  exact ⟨b, off, rfl, hbw, by rw [hbl.cell (by exact hbw)]; exact hcs _ _ (bools_get hx), by rw [hbl.cell (by exact hbw)]; exact hcs _ _ (bools_get hy)⟩
theorem asgN_le {c : Cir} (h : c.valid) : 1 ≤ asgN c ∧ asgN c ≤ 128 := by
  obtain ⟨q1, q2, q3, q4, q5⟩ := h.lim
  unfold asgN
  exact ⟨Nat.pow_pos (by omega), Nat.le_trans (Nat.pow_le_pow_right (by omega) (show c.inp.toNat + c.next.length ≤ 7 by omega)) (by decide)⟩
theorem evalV_asg (c : Cir) (x : Int) (ni : Nat) (hi : c.inp = ni) : valsV (-1) false (false :: (bitsV x ni ++ bitsV (x / 2 ^ ni) c.next.length)) c.gates = evalV c x (-1) false := by
  rw [evalV_no]; unfold asgV; rw [hi]; simp

/-! Functions of variables as strings: the program's walks. -/

def bnum (f : Nat → Bool) (x : Nat) : Int := if f x then 49 else 48
def bnums (f : Nat → Bool) (N : Nat) : List Int := (List.range N).map (bnum f)
theorem bnums_length (f : Nat → Bool) (N : Nat) : (bnums f N).length = N := by simp [bnums]
theorem bnums_succ (f : Nat → Bool) (N : Nat) : bnums f (N + 1) = bnums f N ++ [bnum f N] := by simp [bnums, List.range_succ]
def bstr (f : Nat → Bool) (N : Nat) : ByteArray := strOfNums (bnums f N)
theorem bstr_size (f : Nat → Bool) (N : Nat) : (bstr f N).size = N := by unfold bstr; rw [strOfNums_size, bnums_length]
theorem bstr_get (f : Nat → Bool) (N i : Nat) (h : i < (bstr f N).size) : (bstr f N)[i].toNat = if f i then 49 else 48 := by
  have h2 : i < N := by rw [bstr_size] at h; exact h
  have e : (bstr f N)[i] = UInt8.ofNat (bnum f i).toNat := by
    simp [bstr, strOfNums, bnums, ByteArray.getElem_eq_getElem_data]
  rw [e]
  unfold bnum
  split <;> rfl
theorem bstr_beq (f g : Nat → Bool) (N k : Nat) (h1 : k < (bstr f N).size) (h2 : k < (bstr g N).size) : (((bstr f N)[k].toNat : Int) == ((bstr g N)[k].toNat : Int)) = (f k == g k) := by
  rw [bstr_get, bstr_get]
  cases f k <;> cases g k <;> rfl
def eqCnt (f g : Nat → Bool) (k : Nat) : Nat := ((List.range k).filter fun x => f x == g x).length
theorem eqCnt_succ (f g : Nat → Bool) (k : Nat) : eqCnt f g (k + 1) = eqCnt f g k + (if f k = g k then 1 else 0) := by
  unfold eqCnt
  rw [List.range_succ, List.filter_append, List.length_append]
  by_cases h : f k = g k <;> simp [h]
theorem eqCnt_le (f g : Nat → Bool) (k : Nat) : eqCnt f g k ≤ k := by
  have := List.length_filter_le (fun x => f x == g x) (List.range k); simpa [eqCnt] using this
theorem eqCnt_all (f g : Nat → Bool) (k : Nat) : eqCnt f g k = k ↔ eqAll f g k = true := by
  induction k with
  | zero => simp [eqCnt, eqAll]
  | succ k ih =>
    rw [eqCnt_succ, eqAll_succ, Bool.and_eq_true, ← ih]
    have := eqCnt_le f g k
    by_cases h : f k = g k
    · simp [h]
    · simp [h]; omega
theorem eqCnt_none (f g : Nat → Bool) (k : Nat) : eqCnt f g k = 0 ↔ neAll f g k = true := by
  induction k with
  | zero => simp [eqCnt, neAll]
  | succ k ih =>
    rw [eqCnt_succ, neAll_succ, Bool.and_eq_true, ← ih]
    by_cases h : f k = g k <;> simp [h]

end Go.Proofs.Ytaboipnigeaopaa
