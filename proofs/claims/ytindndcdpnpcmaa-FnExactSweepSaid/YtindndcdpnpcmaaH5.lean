import Derived.Test.YtindndcdpnpcmaaH4
import Derived.Test.YtindndcdpnpcmaaL3
import Derived.Test.YtindndcdpnpcmaaH2
namespace Go.Proofs.Ytindndcdpnpcmaa
set_option linter.unusedVariables false
set_option linter.unusedSimpArgs false
open Go.RowKit

set_option maxHeartbeats 1600000 in
theorem l12Find_any (v : Value) (c : Cir) (p : Int) (val : Bool) (w : World) (h : CirV w v c) (hv : c.valid) (hp : 0 ≤ p) (hp2 : p < c.vars) :
    Calls Try.prog 104 #[v, .agg #[.int .i64 p, .bool val]] w fun e w' => e = .returned (.int .i64 (findN (detV c p val) (asgN c))) ∧ Below w.heap.size w w' := by
  have HC : Hid (∀ w', Below w.heap.size w w' → CirV w' v c) := fun w' hb => h.mono hb
  obtain ⟨sn, cn, sg, cg, so, co, rfl, h1, h2, h3, hl1, hl2, hl3⟩ := h
  obtain ⟨q1, q2, q3, q4, q5⟩ := id hv.lim
  obtain ⟨n1, n2⟩ := asgN_le hv
  obtain ⟨ni, hni⟩ : ∃ ni : Nat, c.inp = ni := ⟨c.inp.toNat, by omega⟩
  obtain ⟨N, hN⟩ : ∃ N, N = asgN c := ⟨_, rfl⟩
  have n4 : ni ≤ 4 := by omega
  have hsh : (2 : Int) ^ (ni + c.next.length) = (N : Int) := by rw [hN]; unfold asgN; rw [hni]; simp
  have hwp : wrap64 (2 ^ (ni + c.next.length)) = (N : Int) := by rw [wrap_pow (by omega)]; exact hsh
  have hto : ((ni : Int) + (c.next.length : Int)).toNat = ni + c.next.length := by omega
  have hb0 : Below w.heap.size w ((w.alloc (.cells #[.int .i64 c.inp, .slice sn c.next.length cn, .slice sg c.gates.length cg, .slice so c.outs.length co] 29)).alloc (.cells #[.int .i64 p, .bool val] 51)) := by go_grown
  have hn0 := blk_old (o := .cells #[.int .i64 p, .bool val] 51) (blk_new w (.cells #[.int .i64 c.inp, .slice sn c.next.length cn, .slice sg c.gates.length cg, .slice so c.outs.length co] 29))
  have hf0 : ((w.alloc (.cells #[.int .i64 c.inp, .slice sn c.next.length cn, .slice sg c.gates.length cg, .slice so c.outs.length co] 29)).alloc (.cells #[.int .i64 p, .bool val] 51)).heap[w.heap.size + 1]? = some (.cells #[.int .i64 p, .bool val] 51 (0, 0)) := blk_at (by simp)
  rw [← hN] at n1 n2 ⊢
  have H := Lib.hid (And.intro hv hp2)
  have H0 := Lib.hid (And.intro hb0 (And.intro hn0 hf0))
  rw [hni] at H0 HC ⊢
  clear h1 h2 h3 hv hp2 hN hsh hb0 hn0 hf0 hni q1 q2
  go_enter Try.func104, Try.ntmps104
  go_wp2_with fail
  revert H0
  generalize ((w.alloc (.cells #[.int .i64 ni, .slice sn c.next.length cn, .slice sg c.gates.length cg, .slice so c.outs.length co] 29)).alloc (.cells #[.int .i64 p, .bool val] 51)) = W1
  intro H0
  go_loopw [5] (fun i wr => ∃ k : Nat, k ≤ N ∧ i = .int .i64 k ∧ (∀ y : Nat, y < k → detV c p val y = false) ∧ Below w.heap.size w wr ∧ wr.heap[w.heap.size]? = some (.cells #[.int .i64 ni, .slice sn c.next.length cn, .slice sg c.gates.length cg, .slice so c.outs.length co] 29 (0, 0)) ∧ wr.heap[w.heap.size + 1]? = some (.cells #[.int .i64 p, .bool val] 51 (0, 0))) (fun i _ => N - (intOf i).toNat)
  case atStart => exact ⟨0, Nat.zero_le _, rfl, fun y hy => by omega, H0.out.1, H0.out.2.1, H0.out.2.2⟩
  case round =>
    obtain ⟨k, hk, rfl, hf, hbl, hblk, hblf⟩ := hrel
    have cb := (blk_all hblk).1
    have cf := (blk_all hblf).1
    have HR := Lib.hid (And.intro hf (And.intro hbl (And.intro hblk hblf)))
    clear hf hbl hblk hblf
    by_cases hlt : k < N
    · obtain ⟨D, hD⟩ : ∃ D, D = detV c p val k := ⟨_, rfl⟩
      have HDk := Lib.hid hD
      clear hD
      cases D
      · go_wp2_with (go_at_call 132; ((refine (l12Detects_any _ c p val k _ (HC.out _ HR.out.2.1) H.out.1 hp H.out.2 (by omega)).mono ?_); rintro e w3 ⟨rfl, hq⟩; rw [← HDk.out]; have H3 := Lib.hid (And.intro (HR.out.2.1.trans (hq.mono HR.out.2.1.size)) (And.intro (blk_below hq (blk_lt HR.out.2.2.1) HR.out.2.2.1) (blk_below hq (blk_lt HR.out.2.2.2) HR.out.2.2.2))); clear hq))
        go_roundw
        case rel => exact ⟨k + 1, by omega, by go_num, fun y hy => if e : y = k then e ▸ HDk.out.symm else HR.out.1 y (by omega), H3.out.1, H3.out.2.1, H3.out.2.2⟩
        case measure => simp [intOf]; omega
      · go_wp2_with (go_at_call 132; ((refine (l12Detects_any _ c p val k _ (HC.out _ HR.out.2.1) H.out.1 hp H.out.2 (by omega)).mono ?_); rintro e w3 ⟨rfl, hq⟩; rw [← HDk.out]; have H3 := Lib.hid (HR.out.2.1.trans (hq.mono HR.out.2.1.size)); clear hq))
        go_ret
        exact ⟨ret_int (findN_some hlt HDk.out.symm HR.out.1).symm, H3.out⟩
    · obtain rfl : k = N := by omega
      go_wp2_with fail
      go_ret
      exact ⟨ret_int (findN_none HR.out.1).symm, HR.out.2.1⟩

theorem elem_fault : ElemOf Try.prog 48 51 (.agg #[.int .i64 0, .bool false]) 2 16 :=
  ⟨by kernel_rfl, info_parts (by kernel_rfl), rfl, by omega⟩
def faultsL (m : Nat) : List (Int × Bool) := (List.range m).flatMap fun (i : Nat) => [((i : Int) + 1, false), ((i : Int) + 1, true)]
theorem faultsL_succ (m : Nat) : faultsL (m + 1) = faultsL m ++ [((m : Int) + 1, false), ((m : Int) + 1, true)] := by simp [faultsL, List.range_succ]
theorem faultsL_length (m : Nat) : (faultsL m).length = 2 * m := by
  induction m with
  | zero => rfl
  | succ m ih => rw [faultsL_succ, List.length_append, ih]; simp; omega
theorem faultsL_range {m : Nat} : ∀ f ∈ faultsL m, 1 ≤ f.1 ∧ f.1 ≤ m := by
  intro f hf
  obtain ⟨i, hi, h⟩ := List.mem_flatMap.1 hf
  have := List.mem_range.1 hi
  simp at h
  rcases h with rfl | rfl <;> simp <;> omega
def fcells (fs : List (Int × Bool)) : List Value := fs.flatMap fun f => [.int .i64 f.1, .bool f.2]
theorem fcells_append (xs ys : List (Int × Bool)) : fcells xs ++ fcells ys = fcells (xs ++ ys) := by simp [fcells]
theorem fcells_length (xs : List (Int × Bool)) : (fcells xs).length = 2 * xs.length := by
  induction xs with
  | nil => rfl
  | cons x xs ih => simp [fcells] at ih ⊢; omega
theorem fcells_get {xs : List (Int × Bool)} {i : Nat} {f : Int × Bool} (h : xs[i]? = some f) : (fcells xs)[2 * i]? = some (.int .i64 f.1) ∧ (fcells xs)[2 * i + 1]? = some (.bool f.2) := by
  induction xs generalizing i with
  | nil => simp at h
  | cons x xs ih =>
    cases i with
    | zero => simp at h; subst h; exact ⟨rfl, rfl⟩
    | succ i =>
      have := ih (i := i) (by simpa using h)
      have e : fcells (x :: xs) = .int .i64 x.1 :: .bool x.2 :: fcells xs := rfl
      rw [e, show 2 * (i + 1) = 2 * i + 1 + 1 from by omega]
      simpa using this
theorem fcells_one (xs : List (Int × Bool)) : ∀ u ∈ fcells xs, u.oneCell' = true := by
  intro u hu
  obtain ⟨x, _, h⟩ := List.mem_flatMap.1 hu
  simp at h
  rcases h with rfl | rfl <;> rfl
theorem Sl.fault {w wr : World} {s : Option Addr} {xs : List (Int × Bool)} (h : Sl w s (fcells xs)) (hbl : Below w.heap.size w wr) {k : Nat} {f : Int × Bool} (hf : xs[k]? = some f) :
    ∃ b off, s = some ⟨b, off, none⟩ ∧ b < w.heap.size ∧ wr.cell? ⟨b, off + k * 2, none⟩ = some (.int .i64 f.1) ∧ wr.cell? ⟨b, off + k * 2 + 1, none⟩ = some (.bool f.2) := by
  have hlt : k < xs.length := (List.getElem?_eq_some_iff.1 hf).1
  obtain ⟨b, off, rfl, hbw, hcs⟩ := h.at (k := 2 * k) (by rw [fcells_length]; omega)
  have e := fcells_get hf
  refine ⟨b, off, rfl, hbw, ?_, ?_⟩
  · rw [hbl.cell (by exact hbw), Nat.mul_comm]; exact hcs _ _ e.1
  · rw [hbl.cell (by exact hbw), Nat.mul_comm, Nat.add_assoc]; exact hcs _ _ e.2

set_option maxHeartbeats 1600000 in
theorem Faults_any (v : Value) (c : Cir) (w : World) (h : CirV w v c) (hval : c.valid) (V : Nat) (hV : c.vars = V) :
    Calls Try.prog 86 #[v] w fun e w' => ∃ s cap, e = .returned (.slice s (2 * (V - 1)) cap) ∧ Sl w' s (fcells (faultsL (V - 1))) ∧ Below w.heap.size w w' := by
  have HC : Hid (∀ w', Below w.heap.size w w' → CirV w' v c) := fun w' hb => h.mono hb
  obtain ⟨sn, cn, sg, cg, so, co, rfl, h1, h2, h3, hl1, hl2, hl3⟩ := h
  have hL : Below w.heap.size w (w.alloc (.cells #[.int .i64 c.inp, .slice sn c.next.length cn, .slice sg c.gates.length cg, .slice so c.outs.length co] 29)) := by go_grown
  have hN := blk_new w (.cells #[.int .i64 c.inp, .slice sn c.next.length cn, .slice sg c.gates.length cg, .slice so c.outs.length co] 29)
  have HL := Lib.hid (And.intro hL hN)
  clear hL hN h1 h2 h3
  obtain ⟨f1, f2, f3, f4⟩ := valid_first hval
  obtain ⟨q1, q2, q3, q4, q5⟩ := id hval.lim
  have e2 : 1 + c.inp + (c.next.length : Int) + (c.gates.length : Int) = (V : Int) := hV
  have v1 : 1 ≤ V := by omega
  have v2 : V ≤ 22 := by omega
  have HH := Lib.hid (And.intro (c.validB_iff.2 hval) e2)
  clear hval hV e2 f1 f2 f3 f4
  go_enter Try.func86, Try.ntmps86
  go_wp2_with (go_at_call 56; ((with_reducible refine (CircuitValid_i _ _ _ (HC.out _ HL.out.1)).mono ?_); rintro e w1 ⟨rfl, hq⟩; have HQ := Lib.hid (And.intro (blk_below hq (blk_lt HL.out.2) HL.out.2) (HL.out.1.trans (hq.mono (by simp)))); clear hq; rw [HH.out.1]))
  go_loopw [4, 3] (fun i x wr => ∃ (m : Nat) (s : Option Addr) (cc : Nat), m + 1 ≤ V ∧ i = .int .i64 ((m : Int) + 1) ∧ x = .slice s (2 * m) cc ∧ wr.ownsRow w1.heap.size 51 2 x (2 * m) (fcells (faultsL m)) ∧ Below w1.heap.size w1 wr) (fun i _ _ => V - (intOf i).toNat)
  case atStart => exact ⟨0, _, _, v1, rfl, rfl, World.ownsRow_nil _ _ _ _, Below.refl _ _⟩
  case round =>
    obtain ⟨m, s3, c3, hm, rfl, rfl, ho, hbl⟩ := hrel
    have hblk := blk_below hbl (blk_lt HQ.out.1) HQ.out.1
    have hbw : Below w.heap.size w wr := HQ.out.2.trans (hbl.mono HQ.out.2.size)
    have hsz := hbl.size
    have HR := Lib.hid (And.intro ho (And.intro hbl (And.intro hbw hblk)))
    clear ho hbl hbw hblk
    by_cases hlt : m + 1 < V
    · go_wp2_with (first
        | (go_at_call 78; ((refine (vars_any _ _ _ _ _ _ _ _ _ _ (CirAt.of_blk HR.out.2.2.2) (by omega) (by omega) (by omega)).mono ?_); rintro e w3 ⟨rfl, hd⟩; rw [HH.out.2]; have hs3 : w1.heap.size ≤ w3.heap.size := (by rw [hd.heap]; exact hsz); have HD := Lib.hid (And.intro (own_below HR.out.1 (hd.below _)) (HR.out.2.1.trans (hd.below _))); clear hd))
        | (at_builtin; refine wpl_app rfl _ _ rfl elem_fault (own_below HD.out.1 ((Below.refl _ _).alloc (Nat.le_refl _) _)) rfl rfl rfl (Sl.new _ _ _) (by simp [Value.oneCell']) (2 * m + 2) rfl (fcells (faultsL (m + 1))) (by rw [faultsL_succ, ← fcells_append]; rfl) (by unfold maxLen; omega) (by omega) (by simp; omega) ?_; intro s6 c6 w6 h6 hb6 _ _; have HA := Lib.hid (And.intro h6 hb6); clear h6 hb6))
      go_roundw
      case rel => exact ⟨m + 1, s6, c6, by omega, by go_num, rfl, HA.out.1, (HD.out.2.alloc hs3 _).trans HA.out.2⟩
      case measure => simp [intOf]; omega
    · obtain rfl : V = m + 1 := by omega
      go_wp2_with (go_at_call 78; ((refine (vars_any _ _ _ _ _ _ _ _ _ _ (CirAt.of_blk HR.out.2.2.2) (by omega) (by omega) (by omega)).mono ?_); rintro e w3 ⟨rfl, hd⟩; rw [HH.out.2]; have HD := Lib.hid hd; clear hd))
      go_ret
      first
        | exact ⟨s3, ⟨c3, rfl⟩, own_sl (own_below HR.out.1 (HD.out.below _)), HR.out.2.2.1.trans (HD.out.below _)⟩
        | exact ⟨s3, c3, rfl, own_sl (own_below HR.out.1 (HD.out.below _)), HR.out.2.2.1.trans (HD.out.below _)⟩

end Go.Proofs.Ytindndcdpnpcmaa
