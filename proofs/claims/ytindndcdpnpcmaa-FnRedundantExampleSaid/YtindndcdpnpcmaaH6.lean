import Derived.Test.YtindndcdpnpcmaaH4
import Derived.Test.YtindndcdpnpcmaaL4
import Derived.Test.YtindndcdpnpcmaaH2
namespace Go.Proofs.Ytindndcdpnpcmaa
set_option linter.unusedVariables false
set_option linter.unusedSimpArgs false
open Go.RowKit

set_option maxHeartbeats 1600000 in
theorem l12Find_any (v : Value) (c : Cir) (p : Int) (val : Bool) (w : World) (h : CirV w v c) (hv : c.valid) (hp : 0 ≤ p) (hp2 : p < c.vars) :
    Calls Try.prog 104 #[v, .agg #[.int .i64 p, .bool val]] w fun e w' => e = .returned (.int .i64 (findN (detV c p val) (asgN c))) ∧ Below w.heap.size w w' := by
  have HC : Hid (∀ w', Below w.heap.size w w' → CirV w' v c) := fun w' hb => h.mono hb
  obtain ⟨sn, cn, sg, cg, so, co, rfl, h1, h2, h3, hl1, hl2, hl3⟩ := h
  obtain ⟨q1, q2, q3, q4, q5⟩ := id hv.lim
  obtain ⟨n1, n2⟩ := asgN_le hv
  obtain ⟨ni, hni⟩ : ∃ ni : Nat, c.inp = ni := ⟨c.inp.toNat, by omega⟩
  obtain ⟨N, hN⟩ : ∃ N, N = asgN c := ⟨_, rfl⟩
  have n4 : ni ≤ 4 := by omega
  have hsh : (2 : Int) ^ (ni + c.next.length) = (N : Int) := by rw [hN]; unfold asgN; rw [hni]; simp
  have hwp : wrap64 (2 ^ (ni + c.next.length)) = (N : Int) := by rw [wrap_pow (by omega)]; exact hsh
  have hto : ((ni : Int) + (c.next.length : Int)).toNat = ni + c.next.length := by omega
  have hb0 : Below w.heap.size w ((w.alloc (.cells #[.int .i64 c.inp, .slice sn c.next.length cn, .slice sg c.gates.length cg, .slice so c.outs.length co] 29)).alloc (.cells #[.int .i64 p, .bool val] 51)) := by go_grown
  have hn0 := blk_old (o := .cells #[.int .i64 p, .bool val] 51) (blk_new w (.cells #[.int .i64 c.inp, .slice sn c.next.length cn, .slice sg c.gates.length cg, .slice so c.outs.length co] 29))
  have hf0 : ((w.alloc (.cells #[.int .i64 c.inp, .slice sn c.next.length cn, .slice sg c.gates.length cg, .slice so c.outs.length co] 29)).alloc (.cells #[.int .i64 p, .bool val] 51)).heap[w.heap.size + 1]? = some (.cells #[.int .i64 p, .bool val] 51 (0, 0)) := blk_at (by simp)
  rw [← hN] at n1 n2 ⊢
  have H := Lib.hid (And.intro hv hp2)
  have H0 := Lib.hid (And.intro hb0 (And.intro hn0 hf0))
  rw [hni] at H0 HC ⊢
  clear h1 h2 h3 hv hp2 hN hsh hb0 hn0 hf0 hni q1 q2
  go_enter Try.func104, Try.ntmps104
  go_wp2_with fail
  revert H0
  generalize ((w.alloc (.cells #[.int .i64 ni, .slice sn c.next.length cn, .slice sg c.gates.length cg, .slice so c.outs.length co] 29)).alloc (.cells #[.int .i64 p, .bool val] 51)) = W1
  intro H0
  go_loopw [5] (fun i wr => ∃ k : Nat, k ≤ N ∧ i = .int .i64 k ∧ (∀ y : Nat, y < k → detV c p val y = false) ∧ Below w.heap.size w wr ∧ wr.heap[w.heap.size]? = some (.cells #[.int .i64 ni, .slice sn c.next.length cn, .slice sg c.gates.length cg, .slice so c.outs.length co] 29 (0, 0)) ∧ wr.heap[w.heap.size + 1]? = some (.cells #[.int .i64 p, .bool val] 51 (0, 0))) (fun i _ => N - (intOf i).toNat)
  case atStart => exact ⟨0, Nat.zero_le _, rfl, fun y hy => by omega, H0.out.1, H0.out.2.1, H0.out.2.2⟩
  case round =>
    obtain ⟨k, hk, rfl, hf, hbl, hblk, hblf⟩ := hrel
    have cb := (blk_all hblk).1
    have cf := (blk_all hblf).1
    have HR := Lib.hid (And.intro hf (And.intro hbl (And.intro hblk hblf)))
    clear hf hbl hblk hblf
    by_cases hlt : k < N
    · obtain ⟨D, hD⟩ : ∃ D, D = detV c p val k := ⟨_, rfl⟩
      have HDk := Lib.hid hD
      clear hD
      cases D
      · go_wp2_with (go_at_call 132; ((refine (l12Detects_any _ c p val k _ (HC.out _ HR.out.2.1) H.out.1 hp H.out.2 (by omega)).mono ?_); rintro e w3 ⟨rfl, hq⟩; rw [← HDk.out]; have H3 := Lib.hid (And.intro (HR.out.2.1.trans (hq.mono HR.out.2.1.size)) (And.intro (blk_below hq (blk_lt HR.out.2.2.1) HR.out.2.2.1) (blk_below hq (blk_lt HR.out.2.2.2) HR.out.2.2.2))); clear hq))
        go_roundw
        case rel => exact ⟨k + 1, by omega, by go_num, fun y hy => if e : y = k then e ▸ HDk.out.symm else HR.out.1 y (by omega), H3.out.1, H3.out.2.1, H3.out.2.2⟩
        case measure => simp [intOf]; omega
      · go_wp2_with (go_at_call 132; ((refine (l12Detects_any _ c p val k _ (HC.out _ HR.out.2.1) H.out.1 hp H.out.2 (by omega)).mono ?_); rintro e w3 ⟨rfl, hq⟩; rw [← HDk.out]; have H3 := Lib.hid (HR.out.2.1.trans (hq.mono HR.out.2.1.size)); clear hq))
        go_ret
        exact ⟨ret_int (findN_some hlt HDk.out.symm HR.out.1).symm, H3.out⟩
    · obtain rfl : k = N := by omega
      go_wp2_with fail
      go_ret
      exact ⟨ret_int (findN_none HR.out.1).symm, HR.out.2.1⟩

theorem elem_fault : ElemOf Try.prog 48 51 (.agg #[.int .i64 0, .bool false]) 2 16 :=
  ⟨by kernel_rfl, info_parts (by kernel_rfl), rfl, by omega⟩
def faultsL (m : Nat) : List (Int × Bool) := (List.range m).flatMap fun (i : Nat) => [((i : Int) + 1, false), ((i : Int) + 1, true)]
theorem faultsL_succ (m : Nat) : faultsL (m + 1) = faultsL m ++ [((m : Int) + 1, false), ((m : Int) + 1, true)] := by simp [faultsL, List.range_succ]
theorem faultsL_length (m : Nat) : (faultsL m).length = 2 * m := by
  induction m with
  | zero => rfl
  | succ m ih => rw [faultsL_succ, List.length_append, ih]; simp; omega
theorem faultsL_range {m : Nat} : ∀ f ∈ faultsL m, 1 ≤ f.1 ∧ f.1 ≤ m := by
  intro f hf
  obtain ⟨i, hi, h⟩ := List.mem_flatMap.1 hf
  have := List.mem_range.1 hi
  simp at h
  rcases h with rfl | rfl <;> simp <;> omega
def fcells (fs : List (Int × Bool)) : List Value := fs.flatMap fun f => [.int .i64 f.1, .bool f.2]
theorem fcells_append (xs ys : List (Int × Bool)) : fcells xs ++ fcells ys = fcells (xs ++ ys) := by simp [fcells]
theorem fcells_length (xs : List (Int × Bool)) : (fcells xs).length = 2 * xs.length := by
  induction xs with
  | nil => rfl
  | cons x xs ih => simp [fcells] at ih ⊢; omega
theorem fcells_get {xs : List (Int × Bool)} {i : Nat} {f : Int × Bool} (h : xs[i]? = some f) : (fcells xs)[2 * i]? = some (.int .i64 f.1) ∧ (fcells xs)[2 * i + 1]? = some (.bool f.2) := by
  induction xs generalizing i with
  | nil => simp at h
  | cons x xs ih =>
    cases i with
    | zero => simp at h; subst h; exact ⟨rfl, rfl⟩
    | succ i =>
      have := ih (i := i) (by simpa using h)
      have e : fcells (x :: xs) = .int .i64 x.1 :: .bool x.2 :: fcells xs := rfl
      rw [e, show 2 * (i + 1) = 2 * i + 1 + 1 from by omega]
      simpa using this
theorem fcells_one (xs : List (Int × Bool)) : ∀ u ∈ fcells xs, u.oneCell' = true := by
  intro u hu
  obtain ⟨x, _, h⟩ := List.mem_flatMap.1 hu
  simp at h
  rcases h with rfl | rfl <;> rfl
theorem Sl.fault {w wr : World} {s : Option Addr} {xs : List (Int × Bool)} (h : Sl w s (fcells xs)) (hbl : Below w.heap.size w wr) {k : Nat} {f : Int × Bool} (hf : xs[k]? = some f) :
    ∃ b off, s = some ⟨b, off, none⟩ ∧ b < w.heap.size ∧ wr.cell? ⟨b, off + k * 2, none⟩ = some (.int .i64 f.1) ∧ wr.cell? ⟨b, off + k * 2 + 1, none⟩ = some (.bool f.2) := by
  have hlt : k < xs.length := (List.getElem?_eq_some_iff.1 hf).1
  obtain ⟨b, off, rfl, hbw, hcs⟩ := h.at (k := 2 * k) (by rw [fcells_length]; omega)
  have e := fcells_get hf
  refine ⟨b, off, rfl, hbw, ?_, ?_⟩
  · rw [hbl.cell (by exact hbw), Nat.mul_comm]; exact hcs _ _ e.1
  · rw [hbl.cell (by exact hbw), Nat.mul_comm, Nat.add_assoc]; exact hcs _ _ e.2

set_option maxHeartbeats 1600000 in
theorem Faults_any (v : Value) (c : Cir) (w : World) (h : CirV w v c) (hval : c.valid) (V : Nat) (hV : c.vars = V) :
    Calls Try.prog 86 #[v] w fun e w' => ∃ s cap, e = .returned (.slice s (2 * (V - 1)) cap) ∧ Sl w' s (fcells (faultsL (V - 1))) ∧ Below w.heap.size w w' := by
  have HC : Hid (∀ w', Below w.heap.size w w' → CirV w' v c) := fun w' hb => h.mono hb
  obtain ⟨sn, cn, sg, cg, so, co, rfl, h1, h2, h3, hl1, hl2, hl3⟩ := h
  have hL : Below w.heap.size w (w.alloc (.cells #[.int .i64 c.inp, .slice sn c.next.length cn, .slice sg c.gates.length cg, .slice so c.outs.length co] 29)) := by go_grown
  have hN := blk_new w (.cells #[.int .i64 c.inp, .slice sn c.next.length cn, .slice sg c.gates.length cg, .slice so c.outs.length co] 29)
  have HL := Lib.hid (And.intro hL hN)
  clear hL hN h1 h2 h3
  obtain ⟨f1, f2, f3, f4⟩ := valid_first hval
  obtain ⟨q1, q2, q3, q4, q5⟩ := id hval.lim
  have e2 : 1 + c.inp + (c.next.length : Int) + (c.gates.length : Int) = (V : Int) := hV
  have v1 : 1 ≤ V := by omega
  have v2 : V ≤ 22 := by omega
  have HH := Lib.hid (And.intro (c.validB_iff.2 hval) e2)
  clear hval hV e2 f1 f2 f3 f4
  go_enter Try.func86, Try.ntmps86
  go_wp2_with (go_at_call 56; ((with_reducible refine (CircuitValid_i _ _ _ (HC.out _ HL.out.1)).mono ?_); rintro e w1 ⟨rfl, hq⟩; have HQ := Lib.hid (And.intro (blk_below hq (blk_lt HL.out.2) HL.out.2) (HL.out.1.trans (hq.mono (by simp)))); clear hq; rw [HH.out.1]))
  go_loopw [4, 3] (fun i x wr => ∃ (m : Nat) (s : Option Addr) (cc : Nat), m + 1 ≤ V ∧ i = .int .i64 ((m : Int) + 1) ∧ x = .slice s (2 * m) cc ∧ wr.ownsRow w1.heap.size 51 2 x (2 * m) (fcells (faultsL m)) ∧ Below w1.heap.size w1 wr) (fun i _ _ => V - (intOf i).toNat)
  case atStart => exact ⟨0, _, _, v1, rfl, rfl, World.ownsRow_nil _ _ _ _, Below.refl _ _⟩
  case round =>
    obtain ⟨m, s3, c3, hm, rfl, rfl, ho, hbl⟩ := hrel
    have hblk := blk_below hbl (blk_lt HQ.out.1) HQ.out.1
    have hbw : Below w.heap.size w wr := HQ.out.2.trans (hbl.mono HQ.out.2.size)
    have hsz := hbl.size
    have HR := Lib.hid (And.intro ho (And.intro hbl (And.intro hbw hblk)))
    clear ho hbl hbw hblk
    by_cases hlt : m + 1 < V
    · go_wp2_with (first
        | (go_at_call 78; ((refine (vars_any _ _ _ _ _ _ _ _ _ _ (CirAt.of_blk HR.out.2.2.2) (by omega) (by omega) (by omega)).mono ?_); rintro e w3 ⟨rfl, hd⟩; rw [HH.out.2]; have hs3 : w1.heap.size ≤ w3.heap.size := (by rw [hd.heap]; exact hsz); have HD := Lib.hid (And.intro (own_below HR.out.1 (hd.below _)) (HR.out.2.1.trans (hd.below _))); clear hd))
        | (at_builtin; refine wpl_app rfl _ _ rfl elem_fault (own_below HD.out.1 ((Below.refl _ _).alloc (Nat.le_refl _) _)) rfl rfl rfl (Sl.new _ _ _) (by simp [Value.oneCell']) (2 * m + 2) rfl (fcells (faultsL (m + 1))) (by rw [faultsL_succ, ← fcells_append]; rfl) (by unfold maxLen; omega) (by omega) (by simp; omega) ?_; intro s6 c6 w6 h6 hb6 _ _; have HA := Lib.hid (And.intro h6 hb6); clear h6 hb6))
      go_roundw
      case rel => exact ⟨m + 1, s6, c6, by omega, by go_num, rfl, HA.out.1, (HD.out.2.alloc hs3 _).trans HA.out.2⟩
      case measure => simp [intOf]; omega
    · obtain rfl : V = m + 1 := by omega
      go_wp2_with (go_at_call 78; ((refine (vars_any _ _ _ _ _ _ _ _ _ _ (CirAt.of_blk HR.out.2.2.2) (by omega) (by omega) (by omega)).mono ?_); rintro e w3 ⟨rfl, hd⟩; rw [HH.out.2]; have HD := Lib.hid hd; clear hd))
      go_ret
      first
        | exact ⟨s3, ⟨c3, rfl⟩, own_sl (own_below HR.out.1 (HD.out.below _)), HR.out.2.2.1.trans (HD.out.below _)⟩
        | exact ⟨s3, c3, rfl, own_sl (own_below HR.out.1 (HD.out.below _)), HR.out.2.2.1.trans (HD.out.below _)⟩

theorem findN_range (p : Int → Bool) (N : Nat) : findN p N = -1 ∨ (0 ≤ findN p N ∧ findN p N < N) := by
  unfold findN
  cases h : (List.range N).find? (fun (x : Nat) => p (x : Int)) with
  | none => exact .inl rfl
  | some x =>
    have := List.mem_of_find?_eq_some h
    have := List.mem_range.1 this
    exact .inr ⟨by simp, by simp; omega⟩
def tStep (c : Cir) (out : List Int) (f : Int × Bool) : List Int := if out.any (detV c f.1 f.2) then out else if 0 ≤ findN (detV c f.1 f.2) (asgN c) then out ++ [findN (detV c f.1 f.2) (asgN c)] else out
def testL (c : Cir) (m k : Nat) : List Int := ((faultsL m).take k).foldl (tStep c) []
theorem testL_snoc {c : Cir} {m k : Nat} {f : Int × Bool} (h : (faultsL m)[k]? = some f) : testL c m (k + 1) = tStep c (testL c m k) f := by
  unfold testL
  rw [List.take_add_one, h, List.foldl_append]; rfl
theorem testL_inv (c : Cir) (m k : Nat) : (testL c m k).length ≤ k ∧ ∀ x ∈ testL c m k, 0 ≤ x ∧ x < asgN c := by
  induction k with
  | zero => simp [testL]
  | succ k ih =>
    by_cases hk : k < (faultsL m).length
    · obtain ⟨f, hf⟩ := get_of_lt hk
      rw [testL_snoc hf]
      unfold tStep
      split
      · exact ⟨by omega, ih.2⟩
      · split
        · rename_i h0
          refine ⟨by simp; omega, fun x hx => ?_⟩
          rcases List.mem_append.1 hx with hx | hx
          · exact ih.2 x hx
          · simp at hx; subst hx
            rcases findN_range (detV c f.1 f.2) (asgN c) with e | e
            · rw [e] at h0; omega
            · exact e
        · exact ⟨by omega, ih.2⟩
    · have e : testL c m (k + 1) = testL c m k := by unfold testL; rw [List.take_of_length_le (by omega), List.take_of_length_le (by omega)]
      rw [e]; exact ⟨by omega, ih.2⟩
def testR (c : Cir) : List Int := if c.validB = true then testL c (c.vars.toNat - 1) (2 * (c.vars.toNat - 1)) else []
theorem testR_no {c : Cir} (h : c.validB = false) : testR c = [] := by unfold testR; rw [h]; rfl
theorem testR_yes {c : Cir} (h : c.validB = true) {V : Nat} (hV : c.vars = V) : testR c = testL c (V - 1) (2 * (V - 1)) := by unfold testR; rw [if_pos h, hV]; rfl
theorem testR_len (c : Cir) : (testR c).length ≤ 1000000 := by
  cases h : c.validB
  · rw [testR_no h]; simp
  · have hv := c.validB_iff.1 h
    obtain ⟨f1, f2, f3, f4⟩ := valid_first hv
    rw [testR_yes h (V := c.vars.toNat) (by omega)]
    have := (testL_inv c (c.vars.toNat - 1) (2 * (c.vars.toNat - 1))).1
    omega

set_option maxHeartbeats 800000 in
theorem indexFunc_any (pa pb : Nat) (s : Option Addr) (cap : Nat) (xs : List Int) (f : Int → Bool) (w : World) (h : Sl w s (ints xs)) (hl : xs.length ≤ 1000)
    (hu : ∀ (W : World) (x : Int), Below w.heap.size w W → x ∈ xs → Calls Try.prog (89) #[.int .i64 x, .pointer (some ⟨pa, 0, none⟩), .pointer (some ⟨pb, 0, none⟩)] W fun e w' => e = .returned (.bool (f x)) ∧ Below W.heap.size W w') :
    Calls Try.prog 124 #[.slice s xs.length cap, .func (.func (89)) #[] #[.pointer (some ⟨pa, 0, none⟩), .pointer (some ⟨pb, 0, none⟩)]] w fun e w' => ∃ r : Int, e = .returned (.int .i64 r) ∧ (-1 ≤ r ∧ r ≤ 1000) ∧ decide (0 ≤ r) = xs.any f ∧ Below w.heap.size w w' := by
  have H := Lib.hid (And.intro h hu)
  clear h hu
  go_enter Try.func124, Try.ntmps124
  go_wp2
  go_loopw [8] (fun i wr => ∃ k : Nat, k ≤ xs.length ∧ i = .int .i64 k ∧ (xs.take k).any f = false ∧ Below w.heap.size w wr) (fun i _ => xs.length - (intOf i).toNat)
  case atStart => exact ⟨0, Nat.zero_le _, rfl, rfl, Below.refl _ _⟩
  case round =>
    obtain ⟨k, hk, rfl, hf, hbl⟩ := hrel
    by_cases hlt : k < xs.length
    · obtain ⟨x, hx⟩ := get_of_lt hlt
      obtain ⟨b, off, rfl, hbw, hz⟩ := H.out.1.int hbl hx
      have hmem := List.mem_of_getElem? hx
      have hsn : (xs.take (k + 1)).any f = ((xs.take k).any f || f x) := by rw [List.take_add_one, hx]; simp
      obtain ⟨D, hD⟩ : ∃ D, D = f x := ⟨_, rfl⟩
      rw [hf, Bool.false_or, ← hD] at hsn
      have hany : D = true → xs.any f = true := fun h => List.any_eq_true.2 ⟨x, hmem, by rw [← hD]; exact h⟩
      have HR := Lib.hid (And.intro hbl (And.intro hsn (And.intro hany (And.intro hD hmem))))
      clear hf hbl hx hmem hsn hany hD hbw
      cases D
      · go_wp2_with fail
        refine (H.out.2 _ x HR.out.1 HR.out.2.2.2.2).mono ?_
        rintro e w3 ⟨rfl, hq⟩
        rw [← HR.out.2.2.2.1]
        have H3 := Lib.hid (HR.out.1.trans (hq.mono HR.out.1.size))
        clear hq
        go_wp2_with fail
        go_roundw
        case rel => exact ⟨k + 1, by omega, by go_num, HR.out.2.1, H3.out⟩
        case measure => simp [intOf]; omega
      · go_wp2_with fail
        refine (H.out.2 _ x HR.out.1 HR.out.2.2.2.2).mono ?_
        rintro e w3 ⟨rfl, hq⟩
        rw [← HR.out.2.2.2.1]
        have H3 := Lib.hid (HR.out.1.trans (hq.mono HR.out.1.size))
        clear hq
        go_wp2_with fail
        go_ret
        exact ⟨k, rfl, by omega, by rw [HR.out.2.2.1 (by first | trivial | rfl)]; simp, H3.out⟩
    · obtain rfl : k = xs.length := by omega
      rw [List.take_length] at hf
      have HR := Lib.hid (And.intro hbl hf)
      clear hbl hf
      go_wp2_with fail
      go_ret
      exact ⟨-1, rfl, by omega, by rw [HR.out.2]; simp, HR.out.1⟩

theorem containsFunc_any (pa pb : Nat) (s : Option Addr) (cap : Nat) (xs : List Int) (f : Int → Bool) (w : World) (h : Sl w s (ints xs)) (hl : xs.length ≤ 1000)
    (hu : ∀ (W : World) (x : Int), Below w.heap.size w W → x ∈ xs → Calls Try.prog (89) #[.int .i64 x, .pointer (some ⟨pa, 0, none⟩), .pointer (some ⟨pb, 0, none⟩)] W fun e w' => e = .returned (.bool (f x)) ∧ Below W.heap.size W w') :
    Calls Try.prog 88 #[.slice s xs.length cap, .func (.func (89)) #[] #[.pointer (some ⟨pa, 0, none⟩), .pointer (some ⟨pb, 0, none⟩)]] w fun e w' => e = .returned (.bool (xs.any f)) ∧ Below w.heap.size w w' := by
  have H := Lib.hid (And.intro h hu)
  clear h hu
  go_enter Try.func88, Try.ntmps88
  go_wp2_with fail
  refine (indexFunc_any pa pb s cap xs f _ H.out.1 hl H.out.2).mono ?_
  rintro e w1 ⟨r, rfl, ⟨r1, r2⟩, hr, hq⟩
  have HQ := Lib.hid (And.intro hr hq)
  clear hr hq
  go_wp2_with fail
  go_ret
  exact ⟨ret_bool HQ.out.1, HQ.out.2⟩

theorem testClosure_any (b b2 : Nat) (sn sg so : Option Addr) (cn cg co : Nat) (c : Cir) (x p : Int) (val : Bool) (w : World)
    (h : CirAt w b c.inp (.slice sn c.next.length cn) (.slice sg c.gates.length cg) (.slice so c.outs.length co)) (hn : Sl w sn (ints c.next)) (hg : Sl w sg (gcells c.gates)) (ho : Sl w so (ints c.outs)) (hv : c.valid)
    (hx : 0 ≤ x ∧ x ≤ 1000) (hp : 0 ≤ p) (hp2 : p < c.vars) (hf : w.heap[b2]? = some (.cells #[.int .i64 p, .bool val] 51 (0, 0))) :
    Calls Try.prog 89 #[.int .i64 x, .pointer (some ⟨b, 0, none⟩), .pointer (some ⟨b2, 0, none⟩)] w fun e w' => e = .returned (.bool (detV c p val x)) ∧ Below w.heap.size w w' := by
  obtain ⟨k, rfl⟩ : ∃ k : Nat, x = k := ⟨x.toNat, by omega⟩
  have H := Lib.hid (detects_any b sn sg so cn cg co c k p val w h hn hg ho hv (by omega) hp hp2)
  have cf := (blk_all hf).1
  clear h hn hg ho hv hp2 hf
  go_enter Try.func89, Try.ntmps89
  go_wp2_with (go_at_call 90; ((refine H.out.mono ?_); rintro e w1 ⟨rfl, hq⟩; have HQ := Lib.hid hq; clear hq))
  go_ret
  exact ⟨rfl, HQ.out⟩

theorem Faults_inv (v : Value) (c : Cir) (w : World) (h : CirV w v c) (hval : c.validB = false) :
    Calls Try.prog 86 #[v] w fun e w' => e = .returned (.slice none 0 0) ∧ Below w.heap.size w w' := by
  have HC : Hid (∀ w', Below w.heap.size w w' → CirV w' v c) := fun w' hb => h.mono hb
  obtain ⟨sn, cn, sg, cg, so, co, rfl, h1, h2, h3, hl1, hl2, hl3⟩ := h
  have hL : Below w.heap.size w (w.alloc (.cells #[.int .i64 c.inp, .slice sn c.next.length cn, .slice sg c.gates.length cg, .slice so c.outs.length co] 29)) := by go_grown
  have HL := Lib.hid hL
  have HE := Lib.hid hval
  clear hL hval h1 h2 h3
  go_enter Try.func86, Try.ntmps86
  go_wp2_with (go_at_call 56; ((with_reducible refine (CircuitValid_i _ _ _ (HC.out _ HL.out)).mono ?_); rintro e w1 ⟨rfl, hq⟩; have HQ := Lib.hid hq; clear hq; rw [HE.out]))
  go_ret
  exact ⟨rfl, HL.out.trans (HQ.out.mono (by simp))⟩

set_option maxHeartbeats 3200000 in
theorem TestSet_i (v : Value) (c : Cir) (w : World) (h : CirV w v c) :
    Calls Try.prog 43 #[v] w fun e w' => ∃ s cap, e = .returned (.slice s (testR c).length cap) ∧ w'.ownsRow w.heap.size 3 1 (.slice s (testR c).length cap) (testR c).length (ints (testR c)) ∧ Below w.heap.size w w' := by
  have HC : Hid (∀ w', Below w.heap.size w w' → CirV w' v c) := fun w' hb => h.mono hb
  obtain ⟨sn, cn, sg, cg, so, co, rfl, h1, h2, h3, hl1, hl2, hl3⟩ := h
  have hL : Below w.heap.size w (w.alloc (.cells #[.int .i64 c.inp, .slice sn c.next.length cn, .slice sg c.gates.length cg, .slice so c.outs.length co] 29)) := by go_grown
  have hN := blk_new w (.cells #[.int .i64 c.inp, .slice sn c.next.length cn, .slice sg c.gates.length cg, .slice so c.outs.length co] 29)
  have HL := Lib.hid (And.intro hL (And.intro hN (And.intro h1 (And.intro h2 h3))))
  clear hL hN h1 h2 h3
  cases hv : c.validB
  · rw [testR_no hv]
    have HE := Lib.hid hv
    clear hv
    go_enter Try.func43, Try.ntmps43
    go_wp2_with (go_at_call 86; ((with_reducible refine (Faults_inv _ _ _ (HC.out _ HL.out.1) HE.out).mono ?_); rintro e w1 ⟨rfl, hq⟩; have HQ := Lib.hid (HL.out.1.trans (hq.mono (by simp))); clear hq))
    refine wp_loop_rounds 1 ?_
    rw [rounds_succ]
    go_wp2_with fail
    go_ret
    exact ⟨_, _, rfl, World.ownsRow_nil _ _ _ _, HQ.out⟩
  · have hval := c.validB_iff.1 hv
    obtain ⟨f1, f2, f3, f4⟩ := valid_first hval
    obtain ⟨n1, n2⟩ := asgN_le hval
    obtain ⟨V, hV⟩ : ∃ V : Nat, c.vars = V := ⟨c.vars.toNat, by omega⟩
    have v1 : 1 ≤ V := by omega
    have v22 : V ≤ 22 := by omega
    rw [testR_yes hv hV]
    have HH := Lib.hid (And.intro hv (And.intro hval (And.intro hV n2)))
    clear hv hval hV f1 f2 f3 f4 n1 n2
    obtain ⟨M, hM⟩ : ∃ M, M = 2 * (V - 1) := ⟨_, rfl⟩
    rw [← hM]
    have hM42 : M ≤ 42 := by omega
    have HMM := Lib.hid hM
    clear hM
    go_enter Try.func43, Try.ntmps43
    go_wp2_with (go_at_call 86; ((with_reducible refine (Faults_any _ _ _ (HC.out _ HL.out.1) HH.out.2.1 V HH.out.2.2.1).mono ?_); rintro e w4 ⟨s4, c4, rfl, hs4, hq⟩; rw [← HMM.out]; have HF := Lib.hid (And.intro hs4 (And.intro (HL.out.1.trans (hq.mono (by simp))) (blk_below hq (blk_lt HL.out.2.1) HL.out.2.1))); clear hs4 hq))
    go_loopw [10, 3] (fun i x wr => ∃ (k : Nat) (s : Option Addr) (cc : Nat), k ≤ M ∧ i = .int .i64 k ∧ x = .slice s (testL c (V - 1) k).length cc ∧ wr.ownsRow w4.heap.size 3 1 x (testL c (V - 1) k).length (ints (testL c (V - 1) k)) ∧ Below w4.heap.size w4 wr) (fun i _ _ => M - (intOf i).toNat)
    case atStart => exact ⟨0, _, _, Nat.zero_le _, rfl, rfl, World.ownsRow_nil _ _ _ _, Below.refl _ _⟩
    case round =>
      obtain ⟨k, s3, c3, hk, rfl, rfl, ho, hbl⟩ := hrel
      have hblk := blk_below hbl (blk_lt HF.out.2.2) HF.out.2.2
      have hbw : Below w.heap.size w wr := HF.out.2.1.trans (hbl.mono HF.out.2.1.size)
      have hsz := hbl.size
      obtain ⟨xs, hxs⟩ : ∃ xs, xs = testL c (V - 1) k := ⟨_, rfl⟩
      obtain ⟨hinv1, hinv2⟩ := testL_inv c (V - 1) k
      rw [← hxs] at ho hinv1 hinv2 ⊢
      have hll : xs.length ≤ 42 := by omega
      by_cases hlt : k < M
      · have hfl : k < (faultsL (V - 1)).length := by rw [faultsL_length]; have := HMM.out; omega
        obtain ⟨⟨p, val⟩, hf⟩ := get_of_lt hfl
        obtain ⟨fb, foff, rfl, hfb, z1, z2⟩ := HF.out.1.fault hbl hf
        obtain ⟨p1, p2⟩ := faultsL_range _ (List.mem_of_getElem? hf)
        have hp2 : p < c.vars := by have := HH.out.2.2.1; omega
        have hstep := testL_snoc (c := c) hf
        rw [← hxs] at hstep
        unfold tStep at hstep
        dsimp only at hstep z1 z2 p1
        obtain ⟨A, hA⟩ : ∃ A, A = xs.any (detV c p val) := ⟨_, rfl⟩
        obtain ⟨X, hX⟩ : ∃ X, X = findN (detV c p val) (asgN c) := ⟨_, rfl⟩
        have hXr := findN_range (detV c p val) (asgN c)
        rw [← hA, ← hX] at hstep
        rw [← hX] at hXr
        have x1 : -1 ≤ X := by rcases hXr with e | e <;> omega
        have x2 : X ≤ 1000 := by have := HH.out.2.2.2; rcases hXr with e | e <;> omega
        have HR := Lib.hid (And.intro ho (And.intro hbl (And.intro hbw (And.intro hblk (And.intro hxs (And.intro hinv2 (And.intro hstep (And.intro hA (And.intro hX hp2)))))))))
        clear ho hbl hbw hblk hxs hinv1 hinv2 hf p2 hstep hA hX hXr hp2 hfb hfl
        go_upto_region 5 with fail
        have hb0 : Below wr.heap.size wr (wr.alloc (.cells #[.int .i64 p, .bool val] 51)) := (Below.refl _ _).alloc (Nat.le_refl _) _
        have hn0 := blk_new wr (.cells #[.int .i64 p, .bool val] 51)
        have hz0 : (wr.alloc (.cells #[.int .i64 p, .bool val] 51)).heap.size = wr.heap.size + 1 := by simp
        clear z1 z2
        revert hb0 hn0 hz0
        generalize wr.alloc (.cells #[.int .i64 p, .bool val] 51) = WG
        intro hb0 hn0 hz0
        have HG := Lib.hid (And.intro (HR.out.2.2.1.trans (hb0.mono HR.out.2.2.1.size)) (And.intro hn0 (And.intro (own_below HR.out.1 hb0) (And.intro (HR.out.2.1.trans (hb0.mono hsz)) (blk_below hb0 (blk_lt HR.out.2.2.2.1) HR.out.2.2.2.1)))))
        have hsG : w4.heap.size ≤ WG.heap.size := by omega
        clear hb0 hn0
        have hcf := containsFunc_any w.heap.size wr.heap.size s3 c3 xs (detV c p val) WG (own_sl HG.out.2.2.1) (by omega) (fun W x hW hx => by
          obtain ⟨y1, y2⟩ := HR.out.2.2.2.2.2.1 x hx
          have hbW : Below w.heap.size w W := HG.out.1.trans (hW.mono HG.out.1.size)
          exact testClosure_any w.heap.size wr.heap.size sn sg so cn cg co c x p val W (CirAt.of_blk (blk_below hW (blk_lt HG.out.2.2.2.2) HG.out.2.2.2.2)) (HL.out.2.2.1.mono hbW) (HL.out.2.2.2.1.mono hbW) (HL.out.2.2.2.2.mono hbW) HH.out.2.1 ⟨y1, by have := HH.out.2.2.2; omega⟩ (by omega) HR.out.2.2.2.2.2.2.2.2.2 (blk_below hW (blk_lt HG.out.2.1) HG.out.2.1))
        have HCF := Lib.hid hcf
        clear hcf
        go_wp2_with fail
        refine HCF.out.mono ?_
        rintro e w6 ⟨rfl, hq⟩
        rw [← HR.out.2.2.2.2.2.2.2.1]
        have cfl := (blk_all (blk_below hq (blk_lt HG.out.2.1) HG.out.2.1)).1
        have H6 := Lib.hid (And.intro (HG.out.1.trans (hq.mono HG.out.1.size)) (And.intro (own_below HG.out.2.2.1 hq) (And.intro (HG.out.2.2.2.1.trans (hq.mono hsG)) (And.intro (blk_below hq (blk_lt HG.out.2.2.2.2) HG.out.2.2.2.2) (show w4.heap.size ≤ w6.heap.size from Nat.le_trans hsG hq.size)))))
        clear hq
        cases A
        · by_cases hX0 : 0 ≤ X
          · have hst : Hid (testL c (V - 1) (k + 1) = xs ++ [X]) := by have := HR.out.2.2.2.2.2.2.1; rw [if_neg (by simp), if_pos hX0] at this; exact this
            go_wp2_with (first
              | (go_at_call 87; ((refine (findTest_any _ _ _ _ _ _ _ c p val _ (CirAt.of_blk H6.out.2.2.2.1) (HL.out.2.2.1.mono H6.out.1) (HL.out.2.2.2.1.mono H6.out.1) (HL.out.2.2.2.2.mono H6.out.1) HH.out.2.1 (by omega) HR.out.2.2.2.2.2.2.2.2.2).mono ?_); rintro e w7 ⟨rfl, hq⟩; rw [← HR.out.2.2.2.2.2.2.2.2.1]; have hs7 : w4.heap.size ≤ w7.heap.size := (Nat.le_trans H6.out.2.2.2.2 hq.size); have H7 := Lib.hid (And.intro (own_below H6.out.2.1 hq) (H6.out.2.2.1.trans (hq.mono H6.out.2.2.2.2))); clear hq cfl))
              | (at_builtin; refine wpl_app rfl _ _ rfl elem_int (own_below H7.out.1 ((Below.refl _ _).alloc (Nat.le_refl _) _)) rfl rfl rfl (Sl.new _ _ _) (by simp [Value.oneCell']) (xs.length + 1) rfl (ints (xs ++ [X])) (by rw [← ints_append]; rfl) (by unfold maxLen; omega) (by omega) (by simp; omega) ?_; intro s8 c8 w8 h8 hb8 _ _; have HA8 := Lib.hid (And.intro h8 hb8); clear h8 hb8))
            go_roundw
            case rel =>
              have el : (testL c (V - 1) (k + 1)).length = xs.length + 1 := by rw [hst.out]; simp
              refine ⟨k + 1, s8, c8, by omega, by go_num, by rw [el], ?_, (H7.out.2.alloc hs7 _).trans HA8.out.2⟩
              rw [el, hst.out]; exact HA8.out.1
            case measure => simp [intOf]; omega
          · have hst : Hid (testL c (V - 1) (k + 1) = xs) := by have := HR.out.2.2.2.2.2.2.1; rw [if_neg (by simp), if_neg hX0] at this; exact this
            go_wp2_with (go_at_call 87; ((refine (findTest_any _ _ _ _ _ _ _ c p val _ (CirAt.of_blk H6.out.2.2.2.1) (HL.out.2.2.1.mono H6.out.1) (HL.out.2.2.2.1.mono H6.out.1) (HL.out.2.2.2.2.mono H6.out.1) HH.out.2.1 (by omega) HR.out.2.2.2.2.2.2.2.2.2).mono ?_); rintro e w7 ⟨rfl, hq⟩; rw [← HR.out.2.2.2.2.2.2.2.2.1]; have H7 := Lib.hid (And.intro (own_below H6.out.2.1 hq) (H6.out.2.2.1.trans (hq.mono H6.out.2.2.2.2))); clear hq cfl))
            go_roundw
            case rel => exact ⟨k + 1, s3, c3, by omega, by go_num, by rw [hst.out], by rw [hst.out]; exact H7.out.1, H7.out.2⟩
            case measure => simp [intOf]; omega
        · have hst : Hid (testL c (V - 1) (k + 1) = xs) := by have := HR.out.2.2.2.2.2.2.1; rw [if_pos rfl] at this; exact this
          go_wp2_with fail
          go_roundw
          case rel => exact ⟨k + 1, s3, c3, by omega, by go_num, by rw [hst.out], by rw [hst.out]; exact H6.out.2.1, H6.out.2.2.1⟩
          case measure => simp [intOf]; omega
      · obtain rfl : k = M := by omega
        have HR := Lib.hid (And.intro ho (And.intro hbw hxs))
        clear ho hbl hbw hblk hxs hinv1 hinv2
        go_wp2_with fail
        go_ret
        rw [← HR.out.2.2]
        have hfin := own_base HR.out.1 HF.out.2.1.size
        first
          | exact ⟨s3, ⟨c3, rfl⟩, hfin, HR.out.2.1⟩
          | exact ⟨s3, c3, rfl, hfin, HR.out.2.1⟩

end Go.Proofs.Ytindndcdpnpcmaa
