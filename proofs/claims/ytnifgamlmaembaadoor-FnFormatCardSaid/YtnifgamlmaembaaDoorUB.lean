import Derived.Test.YtnifgamlmaembaaDoorCL
import Derived.Test.YtnifgamlmaembaaDoorTD
namespace Go.Proofs.YtnifgamlmaembaaDoor
set_option linter.unusedVariables false
set_option linter.unusedSimpArgs false
open Go.RowKit

/-! Lines are drawn. -/

theorem fmtR_bd {C : Cir} (hval : C.valid) : 1 ≤ (fmtR C).length ∧ (fmtR C).length ≤ 21 ∧ ∀ x ∈ fmtR C, x.length ≤ 100 := by
  obtain ⟨q1, q2, q3, q4, q5⟩ := id hval.lim
  obtain ⟨f1, f2, f3, f4⟩ := valid_first hval
  have hv := C.validB_iff.2 hval
  have e : fmtR C = ([lineT inputsW [C.inp.toNat]] ++ C.next.map fun l => lineT latchW [l.toNat]) ++ (C.gates.map fun g => lineT gateW [g.a.toNat, g.b.toNat]) ++ C.outs.map fun l => lineT outW [l.toNat] := by
    unfold fmtR fmtC nxT gtT otT
    rw [hv, if_pos rfl, List.take_length, List.take_length, List.take_length]
  have key : ∀ (wd : Tx) (ns : List Nat), wd.length ≤ 6 → ns.length ≤ 2 → (∀ n ∈ ns, n < 100) → (lineT wd ns).length ≤ 100 := by
    intro wd ns h1 h2 h3
    have := partT_len h3 ns.length
    rw [List.take_length] at this
    unfold lineT
    rw [List.length_append]; omega
  rw [e]
  refine ⟨by simp, by simp; omega, fun x hx => ?_⟩
  rcases List.mem_append.1 hx with hx | hx
  · rcases List.mem_append.1 hx with hx | hx
    · rcases List.mem_append.1 hx with hx | hx
      · rw [List.mem_singleton.1 hx]
        exact key _ _ (by decide) (by simp) (by simp; omega)
      · obtain ⟨l, hl, rfl⟩ := List.mem_map.1 hx
        have := hval.next l hl
        unfold litP at this
        exact key _ _ (by decide) (by simp) (by simp; omega)
    · obtain ⟨g, hg, rfl⟩ := List.mem_map.1 hx
      obtain ⟨i, hi, rfl⟩ := List.getElem_of_mem hg
      have := hval.gates i hi
      unfold litP at this
      exact key _ _ (by decide) (by simp) (by simp; omega)
  · obtain ⟨l, hl, rfl⟩ := List.mem_map.1 hx
    have := hval.outs l hl
    unfold litP at this
    exact key _ _ (by decide) (by simp) (by simp; omega)

/-- Lines of one's own beside a reader. -/
structure DL (w : World) (R : Nat) (s : Option Addr) (c : Nat) (xs : List Int) (B : Nat) (ls : List Tx) (v : Value) (n p : Nat) (W : World) : Prop where
  rd : Rd W R s c xs p
  own : W.ownsRow B 9 1 v n (strs ls)
  bel : Below w.heap.size w W
  hR : R < B
  hw : w.heap.size ≤ R
  hB : B ≤ W.heap.size
section
variable {w W W' : World} {R B c n p : Nat} {s : Option Addr} {xs : List Int} {ls : List Tx} {v : Value}
theorem DL.len (h : DL w R s c xs B ls v n p W) : ls.length = n := by have := h.own.1; simpa [strs_len] using this
theorem DL.below (h : DL w R s c xs B ls v n p W) (hb : Below W.heap.size W W') : DL w R s c xs B ls v n p W' :=
  ⟨h.rd.mono hb, own_below h.own hb, h.bel.trans (hb.mono h.bel.size), h.hR, h.hw, Nat.le_trans h.hB hb.size⟩
theorem DL.upd {q : Nat} (h : DL w R s c xs B ls v n p W) (hrd : Rd W' R s c xs q) (hu : Upd R W W') : DL w R s c xs B ls v n q W' :=
  ⟨hrd, own_kp h.own h.hR (fun k e => (own_blk h.own e).2) (Kp.of_upd hu (Nat.le_refl _)), h.bel.trans (hu.below h.hw h.bel.size), h.hR, h.hw, Nat.le_trans h.hB hu.size⟩
theorem DL.grown {ls' : List Tx} {v' : Value} {n' : Nat} (h : DL w R s c xs B ls v n p W) (ho : W'.ownsRow B 9 1 v' n' (strs ls')) (hb : Below B W W') : DL w R s c xs B ls' v' n' p W' :=
  ⟨h.rd.grown hb h.hR, ho, h.bel.trans (hb.mono (by have := h.hR; have := h.hw; omega)), h.hR, h.hw, Nat.le_trans h.hB hb.size⟩
theorem DL.set {g cap : Nat} (h : DL w R s c xs B ls (.slice (some ⟨g, 0, none⟩) n cap) n p W) (k : Nat) (x : Tx) : DL w R s c xs B (ls.set k x) (.slice (some ⟨g, 0, none⟩) n cap) n p (W.setCell ⟨g, k, none⟩ (sv x)) := by
  obtain ⟨h1, h2⟩ := h.own.stored k (sv x)
  have hg : B ≤ g := (own_blk h.own (k := g) rfl).1
  have e : (strs ls).set k (sv x) = strs (ls.set k x) := by unfold strs; rw [List.map_set]
  rw [e] at h1
  exact h.grown h1 ((Upd.refl g W).below hg h.hB |>.setCell (p := ⟨g, k, none⟩) hg (sv x))
theorem DL.at {g cap : Nat} (h : DL w R s c xs B ls (.slice (some ⟨g, 0, none⟩) n cap) n p W) {k : Nat} (hk : k < n) : ∃ x, ls[k]? = some x ∧ W.cell? ⟨g, k, none⟩ = some (.string ⟨x.toArray⟩) ∧ W.frozen? ⟨g, k, none⟩ = false := by
  obtain ⟨x, hx⟩ := get_of_lt (l := ls) (k := k) (by rw [h.len]; exact hk)
  exact ⟨x, hx, (h.own.cellAt k (by omega)).trans (strs_get hx), h.own.frozenAt k⟩
theorem DL.cap {g cap : Nat} (h : DL w R s c xs B ls (.slice (some ⟨g, 0, none⟩) n cap) n p W) : n ≤ cap ∧ cap ≤ 9223372036854775807 := by
  rcases h.own.2 with ⟨e, _⟩ | ⟨g', cap', cur, e, _, _, h1, h2, _⟩
  · cases e
  · simp only [Value.slice.injEq] at e
    obtain ⟨-, -, rfl⟩ := e
    exact ⟨h1, h2⟩
theorem DL.shape (h : DL w R s c xs B ls v n p W) (hn : 1 ≤ n) : ∃ g cap, v = .slice (some ⟨g, 0, none⟩) n cap := by
  obtain ⟨s', cap, rfl⟩ := own_shape h.own
  rcases own_some h.own with ⟨-, h0, -⟩ | ⟨g, rfl⟩
  · omega
  · exact ⟨g, cap, rfl⟩
theorem own_of_heap {base g cap : Nat} {e : TypeId} {ys : List Value} (h : W.ownsRow base e 1 (.slice (some ⟨g, 0, none⟩) n cap) n ys) (he : W'.heap[g]? = W.heap[g]?) : W'.ownsRow base e 1 (.slice (some ⟨g, 0, none⟩) n cap) n ys := by
  refine ⟨h.1, ?_⟩
  rcases h.2 with ⟨e1, _⟩ | ⟨g', cap', cur, e1, h1, h2, h3⟩
  · cases e1
  · have e2 := e1
    simp only [Value.slice.injEq, Option.some.injEq, Addr.mk.injEq, true_and, and_true] at e2
    obtain ⟨rfl, rfl⟩ := e2
    exact .inr ⟨g, cap, cur, e1, h1, he.trans h2, h3⟩
theorem strs_one (l : List Tx) : ∀ u ∈ strs l, u.oneCell' = true := by
  intro u hu
  obtain ⟨x, -, rfl⟩ := List.mem_map.1 hu
  rfl
theorem sl_part {g cap : Nat} {base : Nat} {e : TypeId} (h : W.ownsRow base e 1 (.slice (some ⟨g, 0, none⟩) n cap) n (strs ls)) (K m : Nat) : Sl W (some ⟨g, K, none⟩) (strs ((ls.drop K).take m)) := by
  refine .inr ⟨g, K, rfl, fun j v hv => ?_⟩
  unfold strs at hv
  rw [List.getElem?_map, List.getElem?_take] at hv
  split at hv
  · rw [List.getElem?_drop] at hv
    have hlt : K + j < n := by
      have h1 := h.1
      rw [strs_len] at h1
      rcases Nat.lt_or_ge (K + j) ls.length with h2 | h2
      · omega
      · rw [List.getElem?_eq_none h2] at hv; cases hv
    rw [← List.getElem?_map] at hv
    exact (h.cellAt (K + j) (by omega)).trans hv
  · cases hv
theorem sl_tail {g cap K : Nat} {base : Nat} {e : TypeId} (h : W.ownsRow base e 1 (.slice (some ⟨g, 0, none⟩) n cap) n (strs ls)) (hc : n ≤ cap) : Sl W (if cap = K then some ⟨g, 0, none⟩ else some ⟨g, K, none⟩) (strs (ls.drop K)) := by
  split
  · have h1 := h.1
    rw [strs_len] at h1
    rw [List.drop_of_length_le (by omega)]
    exact .inl rfl
  · have := sl_part h K (ls.drop K).length
    rw [List.take_length] at this
    exact this
theorem pick_dl (m : Int) (h : DL w R s c xs B ls v n p W) (hp : p ≤ 1000000) (hm : m ≤ 1000000000) :
    Calls Tryd.prog 47 #[.pointer (some ⟨R, 0, none⟩), .int .i64 m] W fun e W' => ∃ q : Nat, e = .returned (.int .i64 (q : Int)) ∧ (1 ≤ m → (q : Int) < m) ∧ DL w R s c xs B ls v n (p + 1) W' := by
  refine (pick_any _ _ _ _ _ _ _ h.rd (by omega) hm).mono ?_
  rintro e W' ⟨k, rfl, hk1, hk2, hk3, -⟩
  obtain ⟨q, rfl⟩ := Int.eq_ofNat_of_zero_le hk1.1
  exact ⟨q, rfl, fun h1 => by rcases hk1.2 with h | h <;> omega, h.upd hk2 hk3⟩
end

/-- Lines that were drawn. -/
def DlPost (w : World) (e : Ending) (w' : World) : Prop :=
  ∃ (ls : List Tx) (s : Option Addr) (cap : Nat), e = .returned (.slice s ls.length cap) ∧ Sl w' s (strs ls) ∧ ls.length ≤ 100 ∧ (∀ x ∈ ls, x.length ≤ 100) ∧ Below w.heap.size w w'
theorem DL.post {w W : World} {R B c n p cap : Nat} {s s' : Option Addr} {xs : List Int} {ls : List Tx} (h : DL w R s c xs B ls (.slice s' n cap) n p W) (hn : n ≤ 100) (hx : ∀ x ∈ ls, x.length ≤ 100) : DlPost w (.returned (.slice s' n cap)) W := by
  obtain rfl := h.len
  exact ⟨ls, s', cap, rfl, own_sl h.own, hn, hx, h.bel⟩

/-- The lines that may be put in. -/
def oddT : List Tx := [[], [103, 97, 116, 101, 32, 50], [105, 110, 112, 117, 116, 115, 32, 50], [108, 97, 116, 99, 104, 32, 48], [111, 117, 116, 32, 57, 57], [103, 97, 116, 101, 32, 48, 50, 32, 52], [111, 117, 116, 32, 32, 50], [119, 105, 114, 101, 32, 49]]

theorem odd_cell {W W' : World} {R j : Nat} (hj : j < 8) (hu : Upd R (W.alloc (.cells #[.string ⟨#[]⟩, .string ⟨#[103, 97, 116, 101, 32, 50]⟩, .string ⟨#[105, 110, 112, 117, 116, 115, 32, 50]⟩, .string ⟨#[108, 97, 116, 99, 104, 32, 48]⟩, .string ⟨#[111, 117, 116, 32, 57, 57]⟩, .string ⟨#[103, 97, 116, 101, 32, 48, 50, 32, 52]⟩, .string ⟨#[111, 117, 116, 32, 32, 50]⟩, .string ⟨#[119, 105, 114, 101, 32, 49]⟩] 9)) W') (hR : W.heap.size ≠ R) :
    ∃ x : Tx, x.length ≤ 100 ∧ W'.cell? ⟨W.heap.size, j, none⟩ = some (.string ⟨x.toArray⟩) := by
  have hb := (hu.block W.heap.size (by simp) (by simpa using hR)).trans (blk_new W _)
  obtain ⟨x, hx⟩ := get_of_lt (l := oddT) (k := j) hj
  have hl : ∀ x ∈ oddT, x.length ≤ 100 := by decide
  refine ⟨x, hl x (List.mem_of_getElem? hx), ((blk_all hb).1 j).trans ?_⟩
  show ((oddT.map sv).toArray)[j]? = _
  rw [List.getElem?_toArray, List.getElem?_map, hx]
  rfl

set_option maxRecDepth 100000 in
set_option maxHeartbeats 1600000 in
theorem DrawParseCircuit_any (s : Option Addr) (cap : Nat) (xs : List Int) (w : World) (hs : Sl w s (u8s xs)) (hl : xs.length ≤ 1048576) (hcap : xs.length ≤ cap) (hcap2 : cap ≤ 9223372036854775807) (hr : ∀ x ∈ xs, 0 ≤ x ∧ x ≤ 255) :
    Calls Tryd.prog 21 #[.slice s xs.length cap] w (DlPost w) := by
  have HH := Lib.hid (l20Open_any s cap xs w hs hl hcap hcap2 hr)
  clear hs hr
  go_enter Tryd.func21, Tryd.ntmps21
  go_upto_region 3 with (first
    | (go_at_call 46; (with_reducible refine HH.out.mono ?_); rintro e w1 ⟨c, rfl, h1, h2, h3⟩; have H1 := Lib.hid (And.intro h1 (And.intro h2 h3)); clear h1 h2 h3)
    | (go_at_call 45; (with_reducible refine (l20Circuit0_any _ _ _ _ _ _ H1.out.1 (by omega)).mono ?_); rintro e w2 ⟨C, vn, vg, vo, p', rfl, h1, -, h3, h4, h5, h6⟩; obtain ⟨sn, cn, rfl⟩ := own_shape h1.n; obtain ⟨sg, cg, rfl⟩ := own_shape h1.g; obtain ⟨so, co, rfl⟩ := own_shape h1.o; have H2 := Lib.hid (And.intro (own_cv h1) (And.intro h3 (And.intro h5 h6))); clear h1 h3 h5 h6)
    | (go_at_call 7; (refine (FormatCircuit_s _ C _ H2.out.1).mono ?_); rintro e w3 ⟨s3, c3, rfl, ho, hq⟩; have H3 := Lib.hid (And.intro ho hq); clear ho hq))
  have hd0 : DL w w.heap.size s c (xs.take 2000) w2.heap.size (fmtR C) (.slice s3 (fmtR C).length c3) (fmtR C).length p' w3 := by
    have e1 := H1.out.2.2
    have e2 := H2.out.2.2.1.size
    exact ⟨H2.out.2.1.mono H3.out.2, H3.out.1, (H1.out.2.1.trans (H2.out.2.2.1.below (Nat.le_refl _) (by omega))).trans (H3.out.2.mono (by omega)), by omega, Nat.le_refl _, H3.out.2.size⟩
  obtain ⟨b1, b2, b3⟩ := fmtR_bd H2.out.2.2.2
  have HD := Lib.hid hd0
  have HX := Lib.hid b3
  clear hd0 b3 H1 H2 H3 HH
  revert HD HX b1 b2
  generalize fmtR C = ls
  generalize hn : ls.length = n
  clear hn
  intro b1 b2 HD HX
  obtain ⟨g, cp, he⟩ := HD.out.shape b1
  simp only [Value.slice.injEq] at he
  obtain ⟨rfl, -, rfl⟩ := he
  go_upto_region 4 with (go_at_call 47; ((with_reducible refine (pick_dl 2 HD.out (by omega) (by omega)).mono ?_); rintro e w4 ⟨q, rfl, -, hd⟩; have HD := Lib.hid hd; clear hd; cases e0 : ((q : Int) == 0)))
  · go_ret
    exact HD.out.post (by omega) HX.out
  · go_upto_region 5 with (go_at_call 47; ((with_reducible refine (pick_dl (n : Int) HD.out (by omega) (by omega)).mono ?_); rintro e w5 ⟨k, rfl, hk, hd⟩; have HD := Lib.hid hd; have hkn : (k : Int) < n := hk (by omega); clear hd hk))
    go_upto_region 10 with (go_at_call 47; ((with_reducible refine (pick_dl 4 HD.out (by omega) (by omega)).mono ?_); rintro e w6 ⟨r, rfl, -, hd⟩; have HD := Lib.hid hd; clear hd))
    have hk1 : k < n := by omega
    obtain ⟨x, hx, hc, hf⟩ := HD.out.at hk1
    have HXk := Lib.hid (HX.out x (List.mem_of_getElem? hx))
    clear hx
    have hmem : Hid (∀ (i : Nat) (y : Tx), y.length ≤ 100 → ∀ l : List Tx, (∀ z ∈ l, z.length ≤ 100) → ∀ z ∈ l.set i y, z.length ≤ 100) := fun i y hy l h z hz => by
      rcases List.mem_or_eq_of_mem_set hz with h1 | rfl
      · exact h z h1
      · exact hy
    cases f0 : ((r : Int) == 0)
    · cases f1 : ((r : Int) == 1)
      · cases f2 : ((r : Int) == 2)
        · go_upto_region 7 with (go_at_call 47; ((with_reducible refine (pick_dl (n : Int) HD.out (by omega) (by omega)).mono ?_); rintro e w7 ⟨j, rfl, hj, hd⟩; have HD := Lib.hid hd; have hjn : (j : Int) < n := hj (by omega); clear hd hj hc hf))
          have hj1 : j < n := by omega
          obtain ⟨x, hx, hc, hf⟩ := HD.out.at hk1
          obtain ⟨y, hy, hc2, hf2⟩ := HD.out.at hj1
          have HXx := Lib.hid (HX.out x (List.mem_of_getElem? hx))
          have HXy := Lib.hid (HX.out y (List.mem_of_getElem? hy))
          clear hx hy
          go_upto_region 9 with fail
          have hd2 := HD.out.set k y
          have hs2 : (w7.setCell ⟨g, k, none⟩ (.string ⟨y.toArray⟩)) = w7.setCell ⟨g, k, none⟩ (sv y) := rfl
          rw [hs2]
          clear hs2 hc hf hc2 hf2
          revert hd2
          generalize w7.setCell ⟨g, k, none⟩ (sv y) = w8
          intro hd2
          have HD2 := Lib.hid hd2
          clear hd2
          obtain ⟨z, -, hc, hf⟩ := HD2.out.at hj1
          go_wp2_with fail
          go_ret
          exact (HD2.out.set j x).post (by omega) (hmem.out j x HXx.out _ (hmem.out k y HXy.out _ HX.out))
        · go_wp2_with (at_builtin; go_loud (refine wpl_app rfl _ _ rfl elem_str (HD.out.below (below_al _ _)).own rfl rfl rfl (Sl.new _ _ _) (by simp [Value.oneCell']) (n + 1) rfl _ rfl (by unfold maxLen; omega) (by omega) (HD.out.below (below_al _ _)).hB ?_; intro s6 c6 w7 h6 hb6 hg6 hob6; have H6 := Lib.hid ((HD.out.below (below_al _ _)).grown (ls' := ls ++ [x]) (by rw [← strs_append]; exact h6) hb6); clear h6 hb6 hg6 hob6))
          go_ret
          exact H6.out.post (by omega) (fun z hz => by
            rcases List.mem_append.1 hz with h | h
            · exact HX.out z h
            · rw [List.mem_singleton.1 h]; exact HXk.out)
      · go_upto_region 13 with fail
        clear hc hf
        obtain ⟨K1, hK1⟩ : ∃ K1 : Nat, K1 = k + 1 := ⟨_, rfl⟩
        have hw1 : IntKind.i64.wrap ((k : Int) + 1) = (K1 : Int) := by rw [IntWalk.i64_in _ ⟨by omega, by omega⟩]; omega
        obtain ⟨hc1, hc2⟩ := HD.out.cap
        have hkc : (k : Int) ≤ (c3 : Int) := by omega
        have hKc : (K1 : Int) ≤ (c3 : Int) := by omega
        have hKn : (K1 : Int) ≤ (n : Int) := by omega
        clear hK1
        refine wp_region_T (fun _ => True) (.q 1 (.q 2 (.q 3 (.q 5 (.q 6 (.q 7 (.q 8 (.e 0 (.e 4 (.e 9 (.q 10 .nil))))))))))) (by kernel_rfl) (by kernel_rfl) (by kernel_rfl) trivial ?_
        repeat (first | (refine ordt_s (o := ?_) ?_ ?_ ?_; rotate_left 1; (focus ((simp only [List.getElem?_toArray, List.getElem?_cons_succ, List.getElem?_cons_zero]) <;> rfl)); (focus rfl); simp only [Act.put, List.setIfInBounds_toArray, List.set_cons_zero, List.set_cons_succ]) | (refine ordt_q (o := ?_) (v := ?_) ?_ ?_ ?_ ?_; rotate_left 2; (focus ((simp only [List.getElem?_toArray, List.getElem?_cons_succ, List.getElem?_cons_zero]) <;> rfl)); (focus rfl); (focus (intro w' hS; (try dsimp only at hS); go_split_ands; go_simp; (try (with_reducible rfl)))); simp only [Act.put, List.setIfInBounds_toArray, List.set_cons_zero, List.set_cons_succ]))
        refine ordt_e ?_
        (refine op_e (o := ?_) ?_ ?_ (fun K hK => ?_); rotate_left 1; (focus ((simp only [List.getElem?_toArray, List.getElem?_cons_succ, List.getElem?_cons_zero]) <;> rfl)); (focus rfl); go_simp)
        obtain ⟨hd1, hz1⟩ : DL w w.heap.size s c (xs.take 2000) w2.heap.size ls (.slice (some ⟨g, 0, none⟩) n c3) n (p' + 1 + 1 + 1) (w6.alloc (.cells #[] 9)).drew ∧ (w6.alloc (.cells #[] 9)).drew.heap.size = w6.heap.size + 1 := ⟨HD.out.below (below_al _ _).drew, by simp⟩
        have hown : (w6.alloc (.cells #[] 9)).drew.ownsRow w2.heap.size 9 1 (.slice (some ⟨w6.heap.size, 0, none⟩) 0 0) 0 (strs []) := own_of_blk (cur := #[]) (blk_new w6 (.cells #[] 9)) HD.out.hB rfl (by decide)
        have hgn : g < w6.heap.size := (own_blk HD.out.own (k := g) rfl).2
        have HM := Lib.hid (And.intro hd1 (And.intro hz1 (And.intro hown hgn)))
        clear hd1 hz1 hown hgn
        refine hK.out _ _ trivial ?_
        clear hK K
        revert HM
        generalize (w6.alloc (.cells #[] 9)).drew = WA
        intro HM
        (try simp only [Act.put, List.setIfInBounds_toArray, List.set_cons_zero, List.set_cons_succ])
        refine ordt_e ?_
        (refine op_e (o := ?_) ?_ ?_ (fun K hK => ?_); rotate_left 1; (focus ((simp only [List.getElem?_toArray, List.getElem?_cons_succ, List.getElem?_cons_zero]) <;> rfl)); (focus rfl))
        refine wp_app (.tmp 53) (.tmp 56) rfl elem_str HM.out.2.2.1 rfl rfl (news := strs (ls.take k)) (by rw [strs_len, List.length_take, HM.out.1.len]; omega) (by have := sl_part HM.out.1.own 0 k; rwa [List.drop_zero] at this) (strs_one _) k (by omega) (strs (ls.take k)) rfl (by unfold maxLen; omega) (by omega) HM.out.1.hB ?_
        intro s6 c6 WB h6 hb6 hg6 _
        have ho6 : WB.ownsRow w2.heap.size 9 1 (.slice (some ⟨g, 0, none⟩) n c3) n (strs ls) := own_of_heap HM.out.1.own (hg6.block g (by have := HM.out.2.1; have := HM.out.2.2.2; omega) (by simp [Value.ownBlock]; have := HM.out.2.2.2; omega))
        have HN := Lib.hid (And.intro ho6 (And.intro h6 (And.intro hb6 (Nat.le_trans HM.out.1.hB hb6.size))))
        clear ho6 h6 hb6 hg6
        refine hK.out _ _ trivial ?_
        clear hK K
        (try simp only [Act.put, List.setIfInBounds_toArray, List.set_cons_zero, List.set_cons_succ])
        refine ordt_e ?_
        (refine op_e (o := ?_) ?_ ?_ (fun K hK => ?_); rotate_left 1; (focus ((simp only [List.getElem?_toArray, List.getElem?_cons_succ, List.getElem?_cons_zero]) <;> rfl)); (focus rfl))
        refine wp_app (.tmp 57) (.tmp 61) rfl elem_str HN.out.2.1 rfl rfl (news := strs (ls.drop K1)) (by rw [strs_len, List.length_drop, HM.out.1.len]; omega) (sl_tail HN.out.1 (by omega)) (strs_one _) (k + (n - K1)) rfl (strs (ls.take k ++ ls.drop K1)) (strs_append _ _) (by unfold maxLen; omega) (by omega) HN.out.2.2.2 ?_
        intro s7 c7 WC h7 hb7 _ _
        have hd3 := HM.out.1.grown h7 (HN.out.2.2.1.trans hb7)
        have HD3 := Lib.hid hd3
        clear h7 hb7 hd3
        refine hK.out _ _ trivial ?_
        clear hK K
        (try simp only [Act.put, List.setIfInBounds_toArray, List.set_cons_zero, List.set_cons_succ])
        repeat (first | (refine ordt_s (o := ?_) ?_ ?_ ?_; rotate_left 1; (focus ((simp only [List.getElem?_toArray, List.getElem?_cons_succ, List.getElem?_cons_zero]) <;> rfl)); (focus rfl); simp only [Act.put, List.setIfInBounds_toArray, List.set_cons_zero, List.set_cons_succ]) | (refine ordt_q (o := ?_) (v := ?_) ?_ ?_ ?_ ?_; rotate_left 2; (focus ((simp only [List.getElem?_toArray, List.getElem?_cons_succ, List.getElem?_cons_zero]) <;> rfl)); (focus rfl); (focus (intro w' hS; (try dsimp only at hS); go_split_ands; go_simp; (try (with_reducible rfl)))); simp only [Act.put, List.setIfInBounds_toArray, List.set_cons_zero, List.set_cons_succ]))
        refine ordt_nil ?_
        go_wp2_with fail
        all_goals go_ret
        all_goals exact HD3.out.post (by omega) (fun z hz => by
          rcases List.mem_append.1 hz with h | h
          · exact HX.out z (List.mem_of_mem_take h)
          · exact HX.out z (List.mem_of_mem_drop h))
    · clear hc hf
      go_wp2_with (go_at_call 47; ((refine (pick_any _ _ _ _ _ 8 _ (HD.out.below (below_al _ _)).rd (by omega) (by omega)).mono ?_); rintro e w7 ⟨j0, rfl, hj1, hj2, hj3, -⟩; obtain ⟨j, rfl⟩ := Int.eq_ofNat_of_zero_le hj1.1; have hj8 : (j : Int) < 8 := (by have := hj1.2; omega); obtain ⟨y, hy, hcy⟩ := odd_cell (j := j) (by omega) hj3 (Nat.ne_of_gt (by have := HD.out.hR; have := HD.out.hB; omega)); have HD7 := Lib.hid ((HD.out.below (below_al _ _)).upd hj2 hj3); obtain ⟨z, -, hc, hf⟩ := HD7.out.at hk1; have HY := Lib.hid hy; clear hj1 hj2 hj3 hy))
      go_ret
      exact (HD7.out.set k y).post (by omega) (hmem.out k y HY.out _ HX.out)

end Go.Proofs.YtnifgamlmaembaaDoor
