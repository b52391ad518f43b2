import Derived.Test.YtindndcdpnpcmaaV6
import Derived.Test.YtindndcdpnpcmaaV3
import Derived.Test.YtindndcdpnpcmaaP2
import Derived.Test.YtindndcdpnpcmaaD3
import Derived.Test.YtindndcdpnpcmaaL4
namespace Go.Proofs.Ytindndcdpnpcmaa
set_option linter.unusedVariables false
set_option linter.unusedSimpArgs false
open Go.RowKit

/-! The columns of values, as strings. -/

theorem elem_u8 : ElemOf Try.prog 35 5 (.int .u8 0) 1 1 :=
  ⟨by kernel_rfl, info_parts (by kernel_rfl), rfl, by omega⟩
theorem elem_str : ElemOf Try.prog 68 9 (.string ByteArray.empty) 1 16 :=
  ⟨by kernel_rfl, info_parts (by kernel_rfl), rfl, by omega⟩
theorem mkCols (w : World) (n : Nat) (h : n ≤ 1048576) : (Instr.makeSlice 108 (.int .i64 (n : Int)) (.int .i64 (n : Int))).run Try.prog w = .ok (.slice (some ⟨w.heap.size, 0, none⟩) n n) (w.alloc (.cells (List.replicate n (.slice none 0 0)).toArray 35)) := by
  obtain ⟨i, hi, h1, h2, h3⟩ := info_parts (P := Try.prog) (e := 35) (z := .slice none 0 0) (size := 1) (bytes := 24) (by kernel_rfl)
  have := run_make (P := Try.prog) w 108 35 i (.slice none 0 0) (by kernel_rfl) hi h1 .i64 .i64 n n (by omega) (by omega) (by rw [h3]; omega) (by omega)
  rw [this, h2]
  have e : madeCells #[Value.slice none 0 0] n = (List.replicate n (Value.slice none 0 0)).toArray := by
    apply Array.ext'
    rw [toList_madeCells_one]
  simp [Value.cells, e]

/-- Rows of bytes: each in a block of its own. -/
structure ColsAt (w : World) (base G : Nat) (cells : List Value) (rows : List (List Int)) : Prop where
  blk : w.heap[G]? = some (.cells cells.toArray 35 (0, 0))
  len : cells.length = rows.length
  own : ∀ (i : Nat) (v : Value) (r : List Int), cells[i]? = some v → rows[i]? = some r → w.ownsRow base 5 1 v r.length (u8s r)
  ne : ∀ (i j : Nat) (vi vj : Value), i ≠ j → cells[i]? = some vi → cells[j]? = some vj → ∀ k, vi.ownBlock = some k → vj.ownBlock ≠ some k
theorem ColsAt.below {w w' : World} {base G : Nat} {cells : List Value} {rows : List (List Int)} (h : ColsAt w base G cells rows) (hb : Below w.heap.size w w') : ColsAt w' base G cells rows :=
  ⟨blk_below hb (blk_lt h.blk) h.blk, h.len, fun i v r h1 h2 => own_below (h.own i v r h1 h2) hb, h.ne⟩
theorem ColsAt.get {w : World} {base G : Nat} {cells : List Value} {rows : List (List Int)} (h : ColsAt w base G cells rows) {i : Nat} {r : List Int} (hr : rows[i]? = some r) : ∃ s c, cells[i]? = some (.slice s r.length c) := by
  obtain ⟨v, hv⟩ := get_of_lt (l := cells) (k := i) (by rw [h.len]; exact (List.getElem?_eq_some_iff.1 hr).1)
  obtain ⟨s, c, rfl⟩ := own_shape (h.own i v r hv hr)
  exact ⟨s, c, hv⟩
theorem ColsAt.row {w : World} {base G : Nat} {cells : List Value} {rows : List (List Int)} (h : ColsAt w base G cells rows) {i : Nat} {v : Value} (hv : cells[i]? = some v) : ∃ r, rows[i]? = some r :=
  get_of_lt (by rw [← h.len]; exact (List.getElem?_eq_some_iff.1 hv).1)
theorem ColsAt.step {w w2 : World} {base G : Nat} {cells : List Value} {rows : List (List Int)} (h : ColsAt w base G cells rows) {m : Nat} {v v' : Value} {r r' : List Int} (hv : cells[m]? = some v) (hr : rows[m]? = some r)
    (hg : w.grownBy w2 v.ownBlock) (ho : w2.ownsRow base 5 1 v' r'.length (u8s r')) (hb : v'.ownBlock = v.ownBlock ∨ v'.ownBlock = some w.heap.size) :
    ColsAt (w2.setCell ⟨G, m, none⟩ v') base G (cells.set m v') (rows.set m r') := by
  have tn : ∀ {i : Nat} {u : Value}, cells[i]? = some u → u.ownBlock ≠ some G := fun {i u} hu => by
    obtain ⟨q, hq⟩ := h.row hu
    exact own_tyb (h.own i u q hu hq) h.blk (by decide)
  have hG2 : w2.heap[G]? = some (.cells cells.toArray 35 (0, 0)) := by
    rw [hg.block G (blk_lt h.blk) (fun e => tn hv e.symm)]; exact h.blk
  have vn : v'.ownBlock ≠ some G := by
    rcases hb with e | e
    · rw [e]; exact tn hv
    · rw [e]; intro e2; have := blk_lt h.blk; simp at e2; omega
  have ml : m < cells.length := (List.getElem?_eq_some_iff.1 hv).1
  have lt : ∀ {i : Nat} {u : Value} {k : Nat}, cells[i]? = some u → u.ownBlock = some k → k < w.heap.size := fun {i u k} hu hk => by
    obtain ⟨q, hq⟩ := h.row hu
    exact (own_blk (h.own i u q hu hq) hk).2
  refine ⟨?_, by simp [h.len], fun i u q h1 h2 => ?_, fun i j vi vj hne h1 h2 k hk => ?_⟩
  · rw [← List.setIfInBounds_toArray]; exact blk_set hG2
  · by_cases e : i = m
    · subst e
      rw [List.getElem?_set_self (by exact ml)] at h1
      rw [List.getElem?_set_self (by rw [← h.len]; exact ml)] at h2
      cases h1; cases h2
      exact own_set_ne ho vn _
    · rw [List.getElem?_set_ne (Ne.symm e)] at h1 h2
      refine own_set_ne ((Chg.of_grown hg).own (h.own i u q h1 h2) (fun k hk hk2 => h.ne i m u v e h1 hv k hk hk2)) (tn h1) _
  · by_cases e : i = m
    · subst e
      rw [List.getElem?_set_self (by exact ml)] at h1
      rw [List.getElem?_set_ne hne] at h2
      cases h1
      rcases hb with e | e
      · rw [e] at hk; exact h.ne i j v vj hne hv h2 k hk
      · rw [e] at hk; cases hk
        intro hj; have := lt h2 hj; omega
    · rw [List.getElem?_set_ne (Ne.symm e)] at h1
      by_cases e2 : j = m
      · subst e2
        rw [List.getElem?_set_self (by exact ml)] at h2
        cases h2
        intro hj
        rcases hb with e3 | e3
        · rw [e3] at hj; exact h.ne i j vi v hne h1 hv k hk hj
        · rw [e3] at hj; cases hj; have := lt h1 hk; omega
      · rw [List.getElem?_set_ne (Ne.symm e2)] at h2
        exact h.ne i j vi vj hne h1 h2 k hk

def rowsK (c : Cir) (V k m : Nat) : List (List Int) := (List.range V).map fun (p : Nat) => bnums (colV c p) (if p < m then k + 1 else k)
theorem rowsK_length (c : Cir) (V k m : Nat) : (rowsK c V k m).length = V := by simp [rowsK]
theorem rowsK_get {c : Cir} {V k m p : Nat} (h : p < V) : (rowsK c V k m)[p]? = some (bnums (colV c p) (if p < m then k + 1 else k)) := by simp [rowsK, h]
theorem rowsK_full (c : Cir) (V k : Nat) : rowsK c V k V = rowsK c V (k + 1) 0 := by
  unfold rowsK
  apply List.map_congr_left
  intro p hp
  rw [if_pos (by simpa using hp), if_neg (by omega)]
theorem rowsK_set {c : Cir} {V k m : Nat} (h : m < V) : (rowsK c V k m).set m (bnums (colV c m) (k + 1)) = rowsK c V k (m + 1) := by
  apply List.ext_getElem?
  intro i
  by_cases hi : i < V
  · by_cases e : i = m
    · subst e
      rw [List.getElem?_set_self (by rw [rowsK_length]; exact h), rowsK_get h, if_pos (by omega)]
    · rw [List.getElem?_set_ne (Ne.symm e), rowsK_get hi, rowsK_get hi]
      by_cases h2 : i < m
      · rw [if_pos h2, if_pos (by omega)]
      · rw [if_neg h2, if_neg (by omega)]
  · rw [List.getElem?_eq_none (by simp [rowsK_length]; omega), List.getElem?_eq_none (by rw [rowsK_length]; omega)]
theorem u8s_append (xs ys : List Int) : u8s xs ++ u8s ys = u8s (xs ++ ys) := by simp [u8s]
theorem u8s_one (xs : List Int) : ∀ u ∈ u8s xs, u.oneCell' = true := by
  intro u hu
  obtain ⟨x, _, rfl⟩ := List.mem_map.1 hu
  rfl

set_option maxRecDepth 100000 in
set_option maxHeartbeats 3200000 in
theorem functions_any (b : Nat) (sn sg : Option Addr) (cn cg : Nat) (vo : Value) (c : Cir) (w : World)
    (h : CirAt w b c.inp (.slice sn c.next.length cn) (.slice sg c.gates.length cg) vo) (hg : Sl w sg (gcells c.gates)) (hv : c.valid) (V : Nat) (hV : c.vars = V) :
    Calls Try.prog 70 #[.pointer (some ⟨b, 0, none⟩)] w fun e w' => ∃ s cap, e = .returned (.slice s V cap) ∧ Sl w' s ((List.range V).map fun p => Value.string (bstr (colV c p) (asgN c))) ∧ Below w.heap.size w w' := by
  have HB : Hid (b < w.heap.size) := World.block_lt_of_cell? w _ h.h0
  obtain ⟨f1, f2, f3, f4⟩ := valid_first hv
  obtain ⟨q1, q2, q3, q4, q5⟩ := id hv.lim
  obtain ⟨n1, n2⟩ := asgN_le hv
  have eF : c.first = 1 + c.inp + c.next.length := rfl
  obtain ⟨ni, hni⟩ : ∃ ni : Nat, c.inp = ni := ⟨c.inp.toNat, by omega⟩
  obtain ⟨N, hN⟩ : ∃ N, N = asgN c := ⟨_, rfl⟩
  have n4 : ni ≤ 4 := by omega
  have v1 : 1 ≤ V := by omega
  have v2 : V ≤ 22 := by omega
  rw [← hN] at n1 n2 ⊢
  have H := Lib.hid (And.intro h (And.intro hg (And.intro hv (And.intro hV (And.intro hni hN)))))
  have hmk := fun w => mkCols w V (by omega)
  have HM : Hid (∀ W, Below w.heap.size w W → CirAt W b c.inp (.slice sn c.next.length cn) (.slice sg c.gates.length cg) vo) := fun W hb => ⟨(hb.cell (p := ⟨b, 0, none⟩) HB.out).trans H.out.1.h0, (hb.cell (p := ⟨b, 1, none⟩) HB.out).trans H.out.1.h1, (hb.cell (p := ⟨b, 2, none⟩) HB.out).trans H.out.1.h2, (hb.cell (p := ⟨b, 3, none⟩) HB.out).trans H.out.1.h3⟩
  have e0 : 1 + c.inp + (c.next.length : Int) + (c.gates.length : Int) = (V : Int) := by omega
  have e1 : ((2 ^ (c.inp.toNat + c.next.length) : Nat) : Int) = (N : Int) := by rw [hN]; rfl
  have E0 := Lib.hid (And.intro e0 e1)
  clear h hg hv hV hni hN e0 e1 f1 f2 f3 eF
  go_enter Try.func70, Try.ntmps70
  go_wp2_with (first
    | (go_at_call 78; ((refine (vars_any _ _ _ _ _ _ _ _ _ _ H.out.1 (by omega) (by omega) (by omega)).mono ?_); rintro e w1 ⟨rfl, hd⟩; rw [E0.out.1]; have HD := Lib.hid hd; clear hd))
    | (go_at_call 91; ((refine (assignments_any _ _ _ _ _ _ _ _ (HM.out _ ((HD.out.below _).alloc (by rw [HD.out.heap]; exact Nat.le_refl _) _)) (by omega) (by omega)).mono ?_); rintro e w2 ⟨rfl, hd⟩; rw [E0.out.2]; have HD2 := Lib.hid hd; clear hd)))
  clear hmk
  have hG : w1.heap.size = w.heap.size := by rw [HD.out.heap]
  have hbA : Below w.heap.size w w2 := ((HD.out.below _).alloc (by omega) _).trans (HD2.out.below _)
  have hbN : w2.heap[w.heap.size]? = some (.cells (List.replicate V (Value.slice none 0 0)).toArray 35 (0, 0)) := by
    rw [HD2.out.heap, ← hG]; exact blk_new _ _
  have hc0 : ColsAt w2 w.heap.size w.heap.size (List.replicate V (Value.slice none 0 0)) (rowsK c V 0 0) := by
    refine ⟨hbN, by rw [rowsK_length]; simp, fun i v r h1 h2 => ?_, fun i j vi vj _ h1 _ k hk => ?_⟩
    · have hi : i < V := by have := (List.getElem?_eq_some_iff.1 h1).1; simpa using this
      rw [rowsK_get hi] at h2
      simp [hi] at h1
      simp [bnums] at h2
      subst h1 h2
      exact World.ownsRow_nil _ _ _ _
    · have hi : i < V := by have := (List.getElem?_eq_some_iff.1 h1).1; simpa using this
      simp [hi] at h1
      subst h1
      cases hk
  rw [hG]
  have HA := Lib.hid (And.intro hbA hc0)
  clear hbA hbN hc0 hG HD HD2
  obtain ⟨G, hG⟩ : ∃ G, w.heap.size = G := ⟨_, rfl⟩
  have HG := Lib.hid hG
  rw [hG] at HA HM HB ⊢
  clear hG
  go_loopw [16] (fun i wr => ∃ (k : Nat) (cells : List Value), k ≤ N ∧ i = .int .i64 k ∧ ColsAt wr G G cells (rowsK c V k 0) ∧ Below G w wr) (fun i _ => N - (intOf i).toNat)
  case atStart => exact ⟨0, _, Nat.zero_le _, rfl, HA.out.2, HA.out.1⟩
  case round =>
    obtain ⟨k, cells, hk, rfl, hco, hbl⟩ := hrel
    by_cases hlt : k < N
    · have hbs : G ≤ wr.heap.size := by have h1 := hbl.size; have h2 := HG.out; omega
      have hkpw : (1 : Int) ≤ 2 ^ ni := by have : (0 : Int) < 2 ^ ni := Int.pow_pos (by decide); omega
      have HR := Lib.hid (And.intro hco (And.intro hbl hkpw))
      clear hco hbl hkpw
      go_wp2_with (first
        | (go_at_call 114; ((refine (latchBits_any _ _ _ _ _ _ _ _ _ (HM.out _ HR.out.2.1) ⟨by omega, by omega⟩ (by omega) (by omega) (by omega)).mono ?_); rintro e wa ⟨sa, rfl, ha, hqa⟩; have HL1 := Lib.hid (And.intro (HR.out.2.1.trans (hqa.mono hbs)) (And.intro ha (And.intro hqa (show wr.heap.size ≤ wa.heap.size from hqa.size)))); clear ha hqa))
        | (go_at_call 115; ((refine (inputBits_any _ _ _ _ _ _ _ (HM.out _ HL1.out.1) ni H.out.2.2.2.2.1 (by omega) (by omega) (by omega)).mono ?_); rintro e wb ⟨sb, rfl, hb, hqb⟩; have HL2 := Lib.hid (And.intro (HL1.out.1.trans (hqb.mono (by have := HL1.out.2.2.2; omega))) (And.intro hb (And.intro (HL1.out.2.1.mono hqb) (And.intro (HL1.out.2.2.1.trans (hqb.mono HL1.out.2.2.2)) (show wr.heap.size ≤ wb.heap.size by have h1 := HL1.out.2.2.2; have h2 := hqb.size; omega))))); clear hb hqb))
        | (go_at_call 113; ((refine (evaluate_any _ _ _ _ _ _ c sa sb _ _ (bitsV ((k : Int) / 2 ^ c.inp.toNat) c.next.length) (bitsV k ni) (-1) false _ (HM.out _ HL2.out.1) (H.out.2.1.mono (by rw [HG.out]; exact HL2.out.1)) H.out.2.2.1 HL2.out.2.2.1 HL2.out.2.1 (bitsV_length _ _) ni (bitsV_length _ _) H.out.2.2.2.2.1 V H.out.2.2.2.1 (by omega) (by omega)).mono ?_); rintro e we ⟨gv, rfl, hgv, hqe⟩; have HE := Lib.hid (And.intro (HL2.out.1.trans (hqe.mono (by have := HL2.out.2.2.2.2; omega))) (And.intro hgv (And.intro (HL2.out.2.2.2.1.trans (hqe.mono HL2.out.2.2.2.2)) (show wr.heap.size ≤ we.heap.size by have h1 := HL2.out.2.2.2.2; have h2 := hqe.size; omega)))); clear hgv hqe)))
      obtain ⟨L, hL⟩ : ∃ L, L = evalV c k (-1) false := ⟨_, rfl⟩
      have hLe : valsV (-1) false (stuckB (-1) false (false :: (bitsV k ni ++ bitsV ((k : Int) / 2 ^ c.inp.toNat) c.next.length))) c.gates = L := by
        rw [hL, ← evalV_asg c k ni H.out.2.2.2.2.1]
        unfold stuckB
        rw [if_neg (by omega), H.out.2.2.2.2.1]
        simp
      have hLl : L.length = V := by
        have h1 := H.out.2.2.2.1; have h2 := H.out.2.2.2.2.1; unfold Cir.vars at h1
        rw [hL, evalV_length]; omega
      have hgv := HE.out.2.1
      rw [hLe] at hgv
      have HV := Lib.hid (And.intro hgv (And.intro hL (And.intro hLl (HR.out.1.below HE.out.2.2.1))))
      have hes : G ≤ we.heap.size := by have h1 := HE.out.2.2.2; omega
      clear hgv hL hLl hLe
      go_loopw [28] (fun j wq => ∃ (m : Nat) (cells : List Value), m ≤ V ∧ j = .int .i64 m ∧ ColsAt wq G G cells (rowsK c V k m) ∧ wq.heap[gv]? = some (.cells (bools L).toArray 4 (0, 0)) ∧ Below G we wq) (fun j _ => V - (intOf j).toNat)
      case atStart => exact ⟨0, cells, Nat.zero_le _, rfl, HV.out.2.2.2, HV.out.1, Below.refl _ _⟩
      case round =>
        obtain ⟨m, cells2, hm, rfl, hco, hgv, hbq⟩ := hrel
        by_cases hmlt : m < V
        · have hrm := rowsK_get (c := c) (k := k) (m := m) hmlt
          rw [if_neg (Nat.lt_irrefl m)] at hrm
          obtain ⟨sm, cm, hvm⟩ := hco.get hrm
          have hom := hco.own m _ _ hvm hrm
          rw [bnums_length] at hom hvm
          obtain ⟨y, hy⟩ := get_of_lt (l := L) (k := m) (by rw [HV.out.2.2.1]; exact hmlt)
          have hcol : colV c m k = y := colV_get (by rw [← HV.out.2.1]; exact hy)
          have hbsucc := bnums_succ (colV c m) k
          have hbn : bnum (colV c m) k = if y then 49 else 48 := by unfold bnum; rw [hcol]
          have z1 := bools_cell hgv hy
          have z2 : wr.cell? ⟨G, m, none⟩ = some (.slice sm k cm) := by rw [blk_cell hco.blk]; simpa using hvm
          have hqs : G ≤ wr.heap.size := by have h1 := hbq.size; omega
          have hGlt := blk_lt hco.blk
          have HQ := Lib.hid (And.intro hco (And.intro hgv (And.intro hbq (And.intro hrm (And.intro hvm (And.intro hom (And.intro hbsucc hbn)))))))
          clear hco hgv hbq hrm hvm hom hy hcol hbsucc hbn
          cases y
          · go_wp2_with (at_builtin; refine wpl_app rfl _ _ rfl elem_u8 (own_below HQ.out.2.2.2.2.2.1 ((Below.refl _ _).alloc (Nat.le_refl _) _)) rfl rfl rfl (Sl.new _ _ _) (by simp [Value.oneCell']) (k + 1) rfl (u8s (bnums (colV c m) (k + 1))) (by rw [HQ.out.2.2.2.2.2.2.1, HQ.out.2.2.2.2.2.2.2, ← u8s_append]; rfl) (by unfold maxLen; omega) (by omega) (by simp; omega) ?_; intro s3 c3 w3 h3 hb3 hg3 ho3; have hcA := HQ.out.1.below ((Below.refl _ _).alloc (Nat.le_refl _) (.cells #[.int .u8 48] 5)); have hgvA := blk_old (o := .cells #[.int .u8 48] 5) HQ.out.2.1; have hG3 : w3.heap[G]? = some (.cells cells2.toArray 35 (0, 0)) := (by rw [hg3.block G (blk_lt hcA.blk) (fun e => own_tyb HQ.out.2.2.2.2.2.1 HQ.out.1.blk (by decide) e.symm)]; exact hcA.blk); have hgv3 : w3.heap[gv]? = some (.cells (bools L).toArray 4 (0, 0)) := (by rw [hg3.block gv (blk_lt hgvA) (fun e => own_tyb HQ.out.2.2.2.2.2.1 HQ.out.2.1 (by decide) e.symm)]; exact hgvA); have z3 : w3.cell? ⟨G, m, none⟩ = some (.slice sm k cm) := (by rw [blk_cell hG3]; simpa using HQ.out.2.2.2.2.1); have z4 : w3.frozen? ⟨G, m, none⟩ = false := blk_free hG3; have HS := Lib.hid (And.intro (hcA.step HQ.out.2.2.2.2.1 HQ.out.2.2.2.1 hg3 (r' := bnums (colV c m) (k + 1)) (v' := .slice s3 (k + 1) c3) (by rw [bnums_length]; exact h3) ho3) (And.intro hgv3 (And.intro ((HQ.out.2.2.1.alloc hqs _).trans hb3) hG3))); clear hcA hgvA hG3 hgv3 h3 hb3 hg3 ho3)
            go_roundw
            case rel =>
              have hne : gv ≠ G := by
                intro e; have h1 := HS.out.2.1; rw [e, HS.out.2.2.2] at h1; simp at h1
              refine ⟨m + 1, cells2.set m (.slice s3 (k + 1) c3), by omega, by go_num, ?_, blk_set_ne (Ne.symm hne) HS.out.2.1, HS.out.2.2.1.setCell (p := ⟨G, m, none⟩) (Nat.le_refl _) _⟩
              rw [← rowsK_set hmlt]; exact HS.out.1
            case measure => simp [intOf]; omega
          · go_wp2_with (at_builtin; refine wpl_app rfl _ _ rfl elem_u8 (own_below HQ.out.2.2.2.2.2.1 ((Below.refl _ _).alloc (Nat.le_refl _) _)) rfl rfl rfl (Sl.new _ _ _) (by simp [Value.oneCell']) (k + 1) rfl (u8s (bnums (colV c m) (k + 1))) (by rw [HQ.out.2.2.2.2.2.2.1, HQ.out.2.2.2.2.2.2.2, ← u8s_append]; rfl) (by unfold maxLen; omega) (by omega) (by simp; omega) ?_; intro s3 c3 w3 h3 hb3 hg3 ho3; have hcA := HQ.out.1.below ((Below.refl _ _).alloc (Nat.le_refl _) (.cells #[.int .u8 49] 5)); have hgvA := blk_old (o := .cells #[.int .u8 49] 5) HQ.out.2.1; have hG3 : w3.heap[G]? = some (.cells cells2.toArray 35 (0, 0)) := (by rw [hg3.block G (blk_lt hcA.blk) (fun e => own_tyb HQ.out.2.2.2.2.2.1 HQ.out.1.blk (by decide) e.symm)]; exact hcA.blk); have hgv3 : w3.heap[gv]? = some (.cells (bools L).toArray 4 (0, 0)) := (by rw [hg3.block gv (blk_lt hgvA) (fun e => own_tyb HQ.out.2.2.2.2.2.1 HQ.out.2.1 (by decide) e.symm)]; exact hgvA); have z3 : w3.cell? ⟨G, m, none⟩ = some (.slice sm k cm) := (by rw [blk_cell hG3]; simpa using HQ.out.2.2.2.2.1); have z4 : w3.frozen? ⟨G, m, none⟩ = false := blk_free hG3; have HS := Lib.hid (And.intro (hcA.step HQ.out.2.2.2.2.1 HQ.out.2.2.2.1 hg3 (r' := bnums (colV c m) (k + 1)) (v' := .slice s3 (k + 1) c3) (by rw [bnums_length]; exact h3) ho3) (And.intro hgv3 (And.intro ((HQ.out.2.2.1.alloc hqs _).trans hb3) hG3))); clear hcA hgvA hG3 hgv3 h3 hb3 hg3 ho3)
            go_roundw
            case rel =>
              have hne : gv ≠ G := by
                intro e; have h1 := HS.out.2.1; rw [e, HS.out.2.2.2] at h1; simp at h1
              refine ⟨m + 1, cells2.set m (.slice s3 (k + 1) c3), by omega, by go_num, ?_, blk_set_ne (Ne.symm hne) HS.out.2.1, HS.out.2.2.1.setCell (p := ⟨G, m, none⟩) (Nat.le_refl _) _⟩
              rw [← rowsK_set hmlt]; exact HS.out.1
            case measure => simp [intOf]; omega
        · obtain rfl : m = V := by omega
          rw [rowsK_full] at hco
          have HQ := Lib.hid (And.intro hco hbq)
          clear hco hgv hbq
          go_wp2_with fail
          go_roundw
          case rel => exact ⟨k + 1, cells2, by omega, by go_num, HQ.out.1, HE.out.1.trans HQ.out.2⟩
          case measure => simp [intOf]; omega
    · obtain rfl : k = N := by omega
      have HQ := Lib.hid (And.intro hco hbl)
      clear hco hbl
      obtain ⟨WF, hWF⟩ : ∃ WF, WF = wr := ⟨_, rfl⟩
      subst hWF
      have hrG : G ≤ WF.heap.size := by have h1 := HQ.out.2.size; have h2 := HG.out; omega
      go_wp2_with fail
      obtain ⟨z2, z3⟩ := blk_all HQ.out.1.blk
      clear z3
      clear z2
      go_loopw [48, 8] (fun i v wz => ∃ (m : Nat) (s : Option Addr) (cc : Nat), m ≤ V ∧ i = .int .i64 m ∧ v = .slice s m cc ∧ wz.ownsRow WF.heap.size 9 1 v m ((List.range m).map fun p => Value.string (bstr (colV c p) k)) ∧ Below WF.heap.size WF wz) (fun i _ _ => V - (intOf i).toNat)
      case atStart => exact ⟨0, _, _, Nat.zero_le _, rfl, rfl, World.ownsRow_nil _ _ _ _, Below.refl _ _⟩
      case round =>
        obtain ⟨m, s8, c8, hm, rfl, rfl, ho, hbq⟩ := hrel
        by_cases hmlt : m < V
        · have hrm := rowsK_get (c := c) (k := k) (m := 0) hmlt
          rw [if_neg (Nat.not_lt_zero m)] at hrm
          have hco := HQ.out.1.below hbq
          obtain ⟨sm, cm, hvm⟩ := hco.get hrm
          have hom := hco.own m _ _ hvm hrm
          rw [bnums_length] at hom hvm
          obtain ⟨g, rfl⟩ : ∃ g, sm = some ⟨g, 0, none⟩ := by
            rcases own_some hom with ⟨_, e, _⟩ | ⟨g, e⟩
            · omega
            · exact ⟨g, e⟩
          have z2 : wr.cell? ⟨G, m, none⟩ = some (.slice (some ⟨g, 0, none⟩) k cm) := by rw [blk_cell hco.blk]; simpa using hvm
          have hconv : (convert 35 9 (.slice (some ⟨g, 0, none⟩) k cm)).run Try.prog wr = .ok (.string (bstr (colV c m) k)) wr := by
            refine run_convert_bytes_arg wr 35 5 (by kernel_rfl) (by kernel_rfl) g 0 k cm (bnums (colV c m) k) (bnums_length _ _) (fun i hi => ?_) 9 (by kernel_rfl)
            have := hom.cellAt i (by omega)
            rw [Nat.zero_add, this]
            have hi2 : i < (bnums (colV c m) k).length := by rw [bnums_length]; exact hi
            simp [u8s, List.getD, hi2]
          have HS := Lib.hid (And.intro ho hbq)
          have hzs : WF.heap.size ≤ wr.heap.size := hbq.size
          clear hrm hco hvm hom ho hbq
          go_wp2_with (at_builtin; refine wpl_app rfl _ _ rfl elem_str (own_below HS.out.1 ((Below.refl _ _).alloc (Nat.le_refl _) _)) rfl rfl rfl (Sl.new _ _ _) (by simp [Value.oneCell']) (m + 1) rfl ((List.range (m + 1)).map fun p => Value.string (bstr (colV c p) k)) (by rw [List.range_succ, List.map_append]; rfl) (by unfold maxLen; omega) (by omega) (by simp; omega) ?_; intro s3 c3 w3 h3 hb3 _ _; have HT := Lib.hid (And.intro h3 hb3); clear h3 hb3)
          go_roundw
          case rel => exact ⟨m + 1, s3, c3, by omega, by go_num, rfl, HT.out.1, (HS.out.2.alloc hzs _).trans HT.out.2⟩
          case measure => simp [intOf]; omega
        · obtain rfl : m = V := by omega
          have HS := Lib.hid (And.intro ho hbq)
          have hws : w.heap.size ≤ WF.heap.size := HQ.out.2.size
          clear ho hbq
          go_wp2_with fail
          go_ret
          exact ⟨s8, c8, rfl, own_sl HS.out.1, by rw [HG.out]; exact HQ.out.2.trans (HS.out.2.mono hrG)⟩

/-! SameFunction, both. -/

def sfOk (c : Cir) (p q : Int) : Prop := c.validB = true ∧ (0 ≤ p ∧ p < c.vars) ∧ 0 ≤ q ∧ q < c.vars
instance (c : Cir) (p q : Int) : Decidable (sfOk c p q) := inferInstanceAs (Decidable (_ ∧ _))
def sfR (c : Cir) (p q : Int) : Int := if sfOk c p q then sameV c p.toNat q.toNat else 0
theorem sfR_no {c : Cir} {p q : Int} (h : ¬ sfOk c p q) : sfR c p q = 0 := by unfold sfR; rw [if_neg h]
theorem sfR_yes {c : Cir} {p q : Int} (h : sfOk c p q) : sfR c p q = sameV c p.toNat q.toNat := by unfold sfR; rw [if_pos h]
theorem Sl.two {w wr : World} {s : Option Addr} {cs : List Value} (h : Sl w s cs) (hbl : Below w.heap.size w wr) {j k : Nat} {x y : Value} (hx : cs[j]? = some x) (hy : cs[k]? = some y) :
    ∃ b off, s = some ⟨b, off, none⟩ ∧ b < w.heap.size ∧ wr.cell? ⟨b, off + j, none⟩ = some x ∧ wr.cell? ⟨b, off + k, none⟩ = some y := by
  obtain ⟨b, off, rfl, hbw, hcs⟩ := h.at (k := j) (List.getElem?_eq_some_iff.1 hx).1
  exact ⟨b, off, rfl, hbw, by rw [hbl.cell (by exact hbw)]; exact hcs _ _ hx, by rw [hbl.cell (by exact hbw)]; exact hcs _ _ hy⟩

theorem compareCols_any (c : Cir) (p q : Nat) (w : World) (hN : asgN c ≤ 1000) :
    Calls Try.prog 73 #[.string (bstr (colV c p) (asgN c)), .string (bstr (colV c q) (asgN c))] w fun e w' => e = .returned (.int .i64 (sameV c p q)) ∧ Drew w w' := compareColumns_any _ _ _ w hN

set_option maxHeartbeats 1600000 in
theorem SameFunction_i (v : Value) (c : Cir) (p q : Int) (w : World) (h : CirV w v c) :
    Calls Try.prog 29 #[v, .int .i64 p, .int .i64 q] w fun e w' => e = .returned (.int .i64 (sfR c p q)) ∧ Below w.heap.size w w' := by
  have HC : Hid (∀ w', Below w.heap.size w w' → CirV w' v c) := fun w' hb => h.mono hb
  obtain ⟨sn, cn, sg, cg, so, co, rfl, h1, h2, h3, hl1, hl2, hl3⟩ := h
  have hL : Below w.heap.size w (w.alloc (.cells #[.int .i64 c.inp, .slice sn c.next.length cn, .slice sg c.gates.length cg, .slice so c.outs.length co] 29)) := by go_grown
  have hN := blk_new w (.cells #[.int .i64 c.inp, .slice sn c.next.length cn, .slice sg c.gates.length cg, .slice so c.outs.length co] 29)
  have HL := Lib.hid (And.intro hL (And.intro hN (And.intro h1 (And.intro h2 h3))))
  clear hL hN h1 h2 h3
  cases hv : c.validB
  · have e : sfR c p q = 0 := sfR_no fun h => by rw [h.1] at hv; cases hv
    rw [e]
    have HE := Lib.hid hv
    clear hv e
    go_enter Try.func29, Try.ntmps29
    go_wp2_with (go_at_call 56; ((with_reducible refine (CircuitValid_i _ _ _ (HC.out _ HL.out.1)).mono ?_); rintro e w1 ⟨rfl, hq⟩; have HQ := Lib.hid hq; clear hq; rw [HE.out]))
    go_ret
    exact ⟨rfl, HL.out.1.trans (HQ.out.mono (by simp))⟩
  · have hval := c.validB_iff.1 hv
    obtain ⟨f1, f2, f3, f4⟩ := valid_first hval
    obtain ⟨q1, q2, q3, q4, q5⟩ := id hval.lim
    obtain ⟨V, hV⟩ : ∃ V : Nat, c.vars = V := ⟨c.vars.toNat, by omega⟩
    have e2 : 1 + c.inp + (c.next.length : Int) + (c.gates.length : Int) = (V : Int) := hV
    have v22 : V ≤ 22 := by omega
    obtain ⟨n1, n2⟩ := asgN_le hval
    have HH := Lib.hid (And.intro hv (And.intro hval (And.intro hV (And.intro e2 n2))))
    clear hv hval f1 f2 f3 f4 hV e2 n1 n2
    by_cases hok : (0 ≤ p ∧ p < (V : Int)) ∧ 0 ≤ q ∧ q < (V : Int)
    · obtain ⟨⟨o1, o2⟩, o3, o4⟩ := hok
      obtain ⟨p, rfl⟩ : ∃ P : Nat, p = P := ⟨p.toNat, by omega⟩
      obtain ⟨q, rfl⟩ : ∃ P : Nat, q = P := ⟨q.toNat, by omega⟩
      have e : sfR c p q = sameV c p q := sfR_yes ⟨HH.out.1, ⟨by omega, by rw [HH.out.2.2.1]; exact o2⟩, by omega, by rw [HH.out.2.2.1]; exact o4⟩
      have HE := Lib.hid e
      clear e
      go_enter Try.func29, Try.ntmps29
      go_wp2_with (first
        | (go_at_call 56; ((with_reducible refine (CircuitValid_i _ _ _ (HC.out _ HL.out.1)).mono ?_); rintro e w1 ⟨rfl, hq⟩; have HQ := Lib.hid (And.intro (blk_below hq (blk_lt HL.out.2.1) HL.out.2.1) (HL.out.1.trans (hq.mono (by simp)))); clear hq; rw [HH.out.1]))
        | (go_at_call 78; ((refine (vars_any _ _ _ _ _ _ _ _ _ _ (CirAt.of_blk HQ.out.1) (by omega) (by omega) (by omega)).mono ?_); rintro e w3 ⟨rfl, hd⟩; rw [HH.out.2.2.2.1]; have HQ := Lib.hid (And.intro (blk_below (hd.below _) (blk_lt HQ.out.1) HQ.out.1) (HQ.out.2.trans (hd.below _))); clear hd))
        | (go_at_call 70; ((refine (functions_any _ _ _ _ _ _ c _ (CirAt.of_blk HQ.out.1) (HL.out.2.2.2.1.mono HQ.out.2) HH.out.2.1 V HH.out.2.2.1).mono ?_); rintro e w4 ⟨s4, c4, rfl, hs4, hq⟩; have HF := Lib.hid (And.intro hs4 (HQ.out.2.trans (hq.mono HQ.out.2.size))); clear hs4 hq)))
      obtain ⟨fb, off, rfl, hfb, z1, z2⟩ := HF.out.1.two (Below.refl _ _) (j := p) (k := q) (x := .string (bstr (colV c p) (asgN c))) (y := .string (bstr (colV c q) (asgN c))) (by rw [List.getElem?_map, List.getElem?_range (by omega)]; rfl) (by rw [List.getElem?_map, List.getElem?_range (by omega)]; rfl)
      go_quiet ((go_at_call 73; exact Calls.quiet_of (compareCols_any c p q _ (by have := HH.out.2.2.2.2; omega))))
      go_wp2_with fail
      go_ret
      exact ⟨ret_int HE.out.symm, below_n HF.out.2 _⟩
    · have e : sfR c p q = 0 := sfR_no fun h => hok (by have h1 := h.2; rw [HH.out.2.2.1] at h1; exact h1)
      have HE := Lib.hid (And.intro e hok)
      clear e hok
      go_enter Try.func29, Try.ntmps29
      go_wp2_with (first
        | (go_at_call 56; ((with_reducible refine (CircuitValid_i _ _ _ (HC.out _ HL.out.1)).mono ?_); rintro e w1 ⟨rfl, hq⟩; have HQ := Lib.hid (And.intro (blk_below hq (blk_lt HL.out.2.1) HL.out.2.1) (HL.out.1.trans (hq.mono (by simp)))); clear hq; rw [HH.out.1]))
        | (go_at_call 78; ((refine (vars_any _ _ _ _ _ _ _ _ _ _ (CirAt.of_blk HQ.out.1) (by omega) (by omega) (by omega)).mono ?_); rintro e w3 ⟨rfl, hd⟩; rw [HH.out.2.2.2.1]; have HQ := Lib.hid (And.intro (blk_below (hd.below _) (blk_lt HQ.out.1) HQ.out.1) (HQ.out.2.trans (hd.below _))); clear hd))
        | (go_at_call 70; exfalso; apply HE.out.2; omega))
      all_goals first
        | (go_ret; exact ⟨ret_int HE.out.1.symm, HQ.out.2⟩)
        | (exfalso; apply HE.out.2; omega)

end Go.Proofs.Ytindndcdpnpcmaa
