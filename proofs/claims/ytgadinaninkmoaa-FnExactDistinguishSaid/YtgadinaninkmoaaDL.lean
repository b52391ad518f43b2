import Derived.Test.YtgadinaninkmoaaDK
namespace Go.Proofs.Ytgadinaninkmoaa
set_option linter.unusedVariables false
set_option linter.unusedSimpArgs false
open Go.RowKit

/-! The program's search. -/

theorem OwnSB.base {w : World} {base base' : Nat} {v : Value} {vs : List Value} {rows : List (List Bool)} (h : OwnSB w base v vs rows) (hb : base' ≤ base) : OwnSB w base' v vs rows :=
  ⟨own_base h.out hb, fun i u r h1 h2 => own_base (h.row i u r h1 h2) hb, h.inj⟩
/-- Rows stay if only blocks of other kinds turn. -/
theorem OwnSB.keep {S : Nat → Prop} {w w' : World} {base : Nat} {v : Value} {vs : List Value} {rows : List (List Bool)} (h : OwnSB w base v vs rows) (hc : Chg S w w')
    (h1 : ∀ (u : Value) (n : Nat) (xs : List Value), w.ownsRow base 4 1 u n xs → ∀ k, u.ownBlock = some k → ¬ S k) (h2 : ∀ (u : Value) (n : Nat) (xs : List Value), w.ownsRow base 44 1 u n xs → ∀ k, u.ownBlock = some k → ¬ S k) : OwnSB w' base v vs rows :=
  ⟨hc.own h.out (h2 _ _ _ h.out), fun i u r e1 e2 => hc.own (h.row i u r e1 e2) (h1 _ _ _ (h.row i u r e1 e2)), h.inj⟩
theorem OwnSB.ones {w : World} {base : Nat} {v : Value} {vs : List Value} {rows : List (List Bool)} (h : OwnSB w base v vs rows) : ∀ u ∈ vs, u.oneCell' = true := by
  intro u hu
  obtain ⟨i, hi⟩ := List.mem_iff_getElem?.1 hu
  obtain ⟨r, hr⟩ := h.rget hi
  obtain ⟨s, c, rfl⟩ := own_shape (h.row i u r hi hr)
  simp [Value.oneCell']
/-- The paths that lead to the pairs. -/
structure PthO (w : World) (base ni : Nat) (vp : Value) (es : List En) (us : List Value) : Prop where
  out : w.ownsRow base 27 1 vp es.length us
  row : ∀ (i : Nat) (e : En), es[i]? = some e → ∃ u vs, us[i]? = some u ∧ OwnSB w base u vs (rowsX ni e.2)
theorem PthO.below {w w' : World} {base ni : Nat} {vp : Value} {es : List En} {us : List Value} (h : PthO w base ni vp es us) (hb : Below w.heap.size w w') : PthO w' base ni vp es us :=
  ⟨own_below h.out hb, fun i e he => by obtain ⟨u, vs, h1, h2⟩ := h.row i e he; exact ⟨u, vs, h1, h2.below hb⟩⟩
theorem PthO.keep {S : Nat → Prop} {w w' : World} {base ni : Nat} {vp : Value} {es : List En} {us : List Value} (h : PthO w base ni vp es us) (hc : Chg S w w')
    (h0 : ∀ (t : TypeId) (u : Value) (n : Nat) (xs : List Value), t = 4 ∨ t = 44 ∨ t = 27 → w.ownsRow base t 1 u n xs → ∀ k, u.ownBlock = some k → ¬ S k) : PthO w' base ni vp es us :=
  ⟨hc.own h.out (h0 _ _ _ _ (.inr (.inr rfl)) h.out), fun i e he => by
    obtain ⟨u, vs, h1, h2⟩ := h.row i e he
    exact ⟨u, vs, h1, h2.keep hc (fun u n xs ho => h0 _ u n xs (.inl rfl) ho) (fun u n xs ho => h0 _ u n xs (.inr (.inl rfl)) ho)⟩⟩
theorem PthO.push {w w2 : World} {base ni : Nat} {vp vp' u : Value} {es : List En} {us vs : List Value} {e : En} (h : PthO w base ni vp es us) (hu : OwnSB w base u vs (rowsX ni e.2)) (hg : w.grownBy w2 vp.ownBlock) (ho : w2.ownsRow base 27 1 vp' (es.length + 1) (us ++ [u])) : PthO w2 base ni vp' (es ++ [e]) (us ++ [u]) := by
  have hc := Chg.of_grown hg
  have h1 : ∀ (x : Value) (n : Nat) (xs : List Value), w.ownsRow base 4 1 x n xs → ∀ k, x.ownBlock = some k → ¬ vp.ownBlock = some k := fun x n xs hx k hk => own_ty hx h.out (by decide) hk
  have h2 : ∀ (x : Value) (n : Nat) (xs : List Value), w.ownsRow base 44 1 x n xs → ∀ k, x.ownBlock = some k → ¬ vp.ownBlock = some k := fun x n xs hx k hk => own_ty hx h.out (by decide) hk
  have hl : us.length = es.length := by have := h.out.1; simpa using this
  refine ⟨by simpa using ho, fun i x hx => ?_⟩
  by_cases hlt : i < es.length
  · rw [List.getElem?_append_left hlt] at hx
    obtain ⟨y, ys, e1, e2⟩ := h.row i x hx
    exact ⟨y, ys, by rw [List.getElem?_append_left (by omega)]; exact e1, e2.keep hc h1 h2⟩
  · have hi := (List.getElem?_eq_some_iff.1 hx).1
    simp at hi
    obtain rfl : i = es.length := by omega
    rw [List.getElem?_append_right (Nat.le_refl _), Nat.sub_self] at hx
    simp at hx
    subst hx
    exact ⟨u, vs, by rw [List.getElem?_append_right (by omega), hl, Nat.sub_self]; rfl, hu.keep hc h1 h2⟩
/-- A path is no longer than its place in the row. -/
def LenD (es : List En) : Prop := ∀ (i : Nat) (e : En), es[i]? = some e → e.2.length ≤ i
theorem LenD.start (p : Int × Int) : LenD [(p, [])] := fun i e h => by
  cases i with
  | zero => simp at h; subst h; simp
  | succ i => simp at h
theorem LenD.add {es : List En} (h : LenD es) {k : Nat} {e : En} (hk : es[k]? = some e) (n : Int × Int) (x : Int) : LenD (es ++ [(n, e.2 ++ [x])]) := fun i e' he => by
  have hkl := (List.getElem?_eq_some_iff.1 hk).1
  by_cases hlt : i < es.length
  · rw [List.getElem?_append_left hlt] at he
    exact h i e' he
  · have hi := (List.getElem?_eq_some_iff.1 he).1
    simp at hi
    obtain rfl : i = es.length := by omega
    rw [List.getElem?_append_right (Nat.le_refl _), Nat.sub_self] at he
    simp at he
    subst he
    have := h k e hk
    simp; omega
def gts (es : List En) : List Gt := es.map fun e => ⟨e.1.1, e.1.2⟩
theorem gts_length (es : List En) : (gts es).length = es.length := by simp [gts]
theorem gcells_one' (gs : List Gt) : ∀ u ∈ gcells gs, u.oneCell' = true := by
  intro u hu
  unfold gcells at hu
  obtain ⟨g, _, h⟩ := List.mem_flatMap.1 hu
  simp [Gt.cells] at h
  rcases h with rfl | rfl <;> simp [Value.oneCell']
theorem gcells_app (xs ys : List Gt) : gcells xs ++ gcells ys = gcells (xs ++ ys) := by simp [gcells]
/-- A path and one step more. -/
theorem path_own {wr w4 w5 w6 w7 : World} {B ni L : Nat} {m : Int} {su s5 s6 s7 : Option Addr} {cu c5 c7 : Nat} {vs : List Value} {xs : List Int} (hB : B ≤ w4.heap.size)
    (hu : OwnSB wr B (.slice su L cu) vs (rowsX ni xs)) (hL : xs.length = L) (h4 : Below wr.heap.size wr w4)
    (h5 : w5.ownsRow w4.heap.size 44 1 (.slice s5 L c5) L vs) (q5 : Below w4.heap.size w4 w5)
    (h6 : w6.ownsRow w5.heap.size 4 1 (.slice s6 ni ni) ni (bools (bitsV m ni))) (q6 : Below w5.heap.size w5 w6)
    (h7 : w7.ownsRow w4.heap.size 44 1 (.slice s7 (L + 1) c7) (L + 1) (vs ++ [.slice s6 ni ni])) (b7 : Below w4.heap.size (w6.alloc (.cells #[.slice s6 ni ni] 44)) w7) (g7 : (w6.alloc (.cells #[.slice s6 ni ni] 44)).grownBy w7 (Value.slice s5 L c5).ownBlock) :
    OwnSB w7 B (.slice s7 (L + 1) c7) (vs ++ [.slice s6 ni ni]) (rowsX ni (xs ++ [m])) ∧ Below w4.heap.size w4 w7 := by
  have hA := (Below.refl w6.heap.size w6).alloc (Nat.le_refl _) (.cells #[.slice s6 ni ni] 44)
  have e46 : Below w4.heap.size w4 (w6.alloc (.cells #[.slice s6 ni ni] 44)) := (q5.trans (q6.mono q5.size)).trans (hA.mono (Nat.le_trans q5.size q6.size))
  have hrl : (rowsX ni xs).length = L := by rw [rowsX_length]; exact hL
  have hold : OwnSB (w6.alloc (.cells #[.slice s6 ni ni] 44)) B (.slice s5 L c5) vs (rowsX ni xs) :=
    ⟨by rw [hrl]; exact own_base (own_below (own_below h5 q6) hA) hB, fun i u r e1 e2 => own_below (own_below (hu.row i u r e1 e2) h4) e46, hu.inj⟩
  have hnew : (w6.alloc (.cells #[.slice s6 ni ni] 44)).ownsRow B 4 1 (.slice s6 ni ni) (bitsV m ni).length (bools (bitsV m ni)) := by
    rw [bitsV_length]; exact own_base (own_below h6 hA) (Nat.le_trans hB q5.size)
  refine ⟨?_, e46.trans (b7.mono (Nat.le_refl _))⟩
  have := hold.push (u := .slice s6 ni ni) (v' := .slice s7 (L + 1) c7) hnew (fun k u' hk hu' e => by
    have a1 := (own_blk h6 hk).1
    obtain ⟨i, hi⟩ := List.mem_iff_getElem?.1 hu'
    obtain ⟨r, hr⟩ := hu.rget hi
    have a2 := (own_blk (hu.row i u' r hi hr) e).2
    have a3 := h4.size
    have a4 := q5.size
    omega) g7 (by rw [hrl]; exact own_base h7 hB)
  unfold rowsX at this ⊢
  rw [List.map_append]
  exact this

def SchPost (r : Option (List Int)) (ni : Nat) (w : World) (e : Ending) (w' : World) : Prop :=
  ∃ s cap vs, e = .returned (.tuple #[.slice s (r.elim [] (rowsX ni)).length cap, .bool r.isSome]) ∧ OwnSB w' w.heap.size (.slice s (r.elim [] (rowsX ni)).length cap) vs (r.elim [] (rowsX ni)) ∧ Below w.heap.size w w'

set_option maxRecDepth 100000 in
set_option maxHeartbeats 6400000 in
theorem search_any (a b : Cir) (ba bb ni : Nat) (w : World) (hva : a.valid) (hvb : b.valid) (hni : a.inp = ni)
    (hu : ∀ (W : World) (s : Int × Int) (x : Nat), Below w.heap.size w W → 0 ≤ s.1 → s.1 ≤ 100 → 0 ≤ s.2 → s.2 ≤ 100 → x ≤ 100 → Calls Try.prog (24) #[pairV s, .int .i64 x, .pointer (some ⟨ba, 0, none⟩), .pointer (some ⟨bb, 0, none⟩)] W fun e w' => e = .returned (.tuple #[pairV (stpD a b s x), .bool (hitD a b s x)]) ∧ Below W.heap.size W w') :
    Calls Try.prog 26 #[.int .i64 ni, .agg #[.int .i64 0, .int .i64 0], .func (.func (24)) #[] #[.pointer (some ⟨ba, 0, none⟩), .pointer (some ⟨bb, 0, none⟩)]] w (SchPost (disD a b) ni w) := by
  obtain ⟨qa1, qa2, qa3, -, -⟩ := id hva.lim
  obtain ⟨-, -, qb3, -, -⟩ := id hvb.lim
  have n4 : ni ≤ 4 := by omega
  obtain ⟨M, hM⟩ : ∃ M, M = 2 ^ ni := ⟨_, rfl⟩
  obtain ⟨NA, hNA⟩ : ∃ NA, NA = 2 ^ a.next.length := ⟨_, rfl⟩
  obtain ⟨NB, hNB⟩ : ∃ NB, NB = 2 ^ b.next.length := ⟨_, rfl⟩
  obtain ⟨N, hN⟩ : ∃ N, N = NA * NB := ⟨_, rfl⟩
  have hwp : wrap64 (2 ^ ni) = (M : Int) := by rw [wrap_pow (by omega), hM]; simp
  have M16 : M ≤ 16 := by rw [hM]; exact Nat.le_trans (Nat.pow_le_pow_right (by decide) n4) (by decide)
  have NA8 : NA ≤ 8 := by rw [hNA]; exact Nat.le_trans (Nat.pow_le_pow_right (by decide) qa3) (by decide)
  have NB8 : NB ≤ 8 := by rw [hNB]; exact Nat.le_trans (Nat.pow_le_pow_right (by decide) qb3) (by decide)
  have N64 : N ≤ 64 := by rw [hN]; exact Nat.le_trans (Nat.mul_le_mul NA8 NB8) (by decide)
  have hR0 : disD a b = outD a b M N 0 [((0, 0), [])] := by rw [hN, hNA, hNB, hM]; unfold disD; rw [hni]; rfl
  obtain ⟨R, hR⟩ : ∃ R, R = disD a b := ⟨_, rfl⟩
  rw [← hR]
  have hg0 : goodD NA NB [((0, 0), [])] := by rw [hNA, hNB]; exact goodD_start a b
  have HH := Lib.hid (And.intro (hR.trans hR0) (And.intro hNA (And.intro hNB (And.intro hN hg0))))
  have HU := Lib.hid hu
  obtain ⟨B, hB⟩ : ∃ B, B = w.heap.size := ⟨_, rfl⟩
  obtain ⟨W1, hW1⟩ : ∃ W1, W1 = (((w.alloc (.cells #[.int .i64 0, .int .i64 0] 51)).alloc (.cells #[.int .i64 0, .int .i64 0] 51)).alloc (.cells #[.slice none 0 0] 27)) := ⟨_, rfl⟩
  have y1 : W1.heap[B]? = some (.cells #[.int .i64 0, .int .i64 0] 51 (0, 0)) := by rw [hW1, hB]; exact blk_old (blk_old (blk_new _ _))
  have y2 : W1.heap[B + 1]? = some (.cells #[.int .i64 0, .int .i64 0] 51 (0, 0)) := by rw [hW1, hB]; exact blk_old (blk_at (by simp))
  have y3 : W1.heap[B + 2]? = some (.cells #[.slice none 0 0] 27 (0, 0)) := by rw [hW1, hB]; exact blk_at (by simp)
  have y4 : W1.heap.size = B + 3 := by rw [hW1, hB]; simp
  have y5 : Below B w W1 := by rw [hW1, hB]; go_grown
  have o1 : W1.ownsRow (B + 1) 51 2 (.slice (some ⟨B + 1, 0, none⟩) 1 1) 1 (gcells [⟨0, 0⟩]) := own_of_blk (n := 1) (cur := #[.int .i64 0, .int .i64 0]) y2 (Nat.le_refl _) (by simp) (by unfold maxLen; omega)
  have o2 : W1.ownsRow (B + 1) 27 1 (.slice (some ⟨B + 2, 0, none⟩) 1 1) 1 [.slice none 0 0] := own_of_blk (n := 1) (cur := #[.slice none 0 0]) y3 (Nat.le_succ _) (by simp) (by unfold maxLen; omega)
  obtain ⟨mb, hmb⟩ : ∃ mb, mb = W1.heap.size := ⟨_, rfl⟩
  have hmb0 : B + 3 = mb := by omega
  have hmm : (Instr.makeMap 81 none).run Try.prog W1 = .ok (.map (some mb)) (W1.alloc (.map #[] 0)) := by rw [hmb]; kernel_rfl
  have hm0 := MapP.new W1
  rw [← hmb] at hm0
  have hA1 : Below mb W1 (W1.alloc (.map #[] 0)) := by rw [hmb]; exact (Below.refl _ _).alloc (Nat.le_refl _) _
  have HW1 := Lib.hid hW1
  clear hW1
  revert hmm hm0 hA1
  generalize W1.alloc (.map #[] 0) = W1m
  intro hmm hm0 hA1
  obtain ⟨W2, hrun, hmo, hgr, hsz⟩ := mapp_update hm0 (0, 0) (by simp)
  have hrun2 : (Instr.mapUpdate 81 (.map (some mb)) (.agg #[.int .i64 0, .int .i64 0]) (.bool true)).run Try.prog W1m = .ok () W2 := hrun
  have hb2 : Below mb W1 W2 := hA1.trans ⟨hgr.os, hgr.tape, hgr.output, hgr.size, fun q hq => hgr.block q (by have := hm0.lt; omega) (by simp; omega)⟩
  have c1 := (blk_all y1).1
  have c2 : ∀ o, W1m.cell? ⟨B, o, none⟩ = #[Value.int .i64 0, Value.int .i64 0][o]? := (blk_all (blk_below hA1 (by omega) y1)).1
  have HW := Lib.hid (And.intro (y5.trans (hb2.mono (by omega))) (And.intro (blk_below hb2 (by omega) y1) (And.intro (own_below o1 (by rw [← hmb]; exact hb2)) (And.intro (⟨own_below o2 (by rw [← hmb]; exact hb2), fun i e he => by
    cases i with
    | zero => simp at he; subst he; exact ⟨_, [], rfl, OwnSB.nil _ _⟩
    | succ i => simp at he⟩ : PthO W2 (B + 1) ni (.slice (some ⟨B + 2, 0, none⟩) 1 1) [((0, 0), [])] [.slice none 0 0]) hmo))))
  clear hg0 hR hNA hNB hN hR0 hM hni hu hva hvb o1 o2 y1 y2 y3 y5 hrun hm0 hA1 hmo hgr hsz hb2 hmb y4
  go_enter Try.func26, Try.ntmps26
  go_upto_region 3 with fail
  rw [← HW1.out, ← hB]
  have HBe := Lib.hid hB
  clear hB
  go_upto_region 5 with fail
  clear hmm hrun2 c1 c2
  go_loopw [11, 8, 9] (fun i v8 v9 wr => ∃ (k : Nat) (es : List En) (us : List Value) (s8 s9 : Option Addr) (c8 c9 f : Nat), k + f = N ∧ i = .int .i64 k ∧ v8 = .slice s8 es.length c8 ∧ v9 = .slice s9 es.length c9 ∧ wr.ownsRow (B + 1) 51 2 v8 es.length (gcells (gts es)) ∧ PthO wr (B + 1) ni v9 es us ∧ MapP wr mb (es.map (·.1)) ∧ goodD NA NB es ∧ LenD es ∧ outD a b M f k es = R ∧ Below (B + 1) W2 wr) (fun i _ _ _ => N - (intOf i).toNat)
  case atStart => exact ⟨0, [((0, 0), [])], [.slice none 0 0], _, _, _, _, N, by omega, rfl, rfl, rfl, HW.out.2.2.1, HW.out.2.2.2.1, HW.out.2.2.2.2, HH.out.2.2.2.2, LenD.start _, HH.out.1.symm, Below.refl _ _⟩
  case round =>
    obtain ⟨k, es, us, s8, s9, c8, c9, f, hkf, rfl, rfl, rfl, hq, hp, hmp, hgd, hln, hrr, hbl⟩ := hrel
    have hlen := goodD_len hgd
    rw [← HH.out.2.2.2.1] at hlen
    by_cases hlt : k < es.length
    · obtain ⟨f, rfl⟩ : ∃ f', f = f' + 1 := ⟨f - 1, by omega⟩
      obtain ⟨e, hek⟩ := get_of_lt hlt
      obtain ⟨⟨p0, p1⟩, r0, r1⟩ := hgd.bd e (List.mem_of_getElem? hek)
      have hL := hln k e hek
      obtain ⟨L, hLe⟩ : ∃ L, L = e.2.length := ⟨_, rfl⟩
      rw [← hLe] at hL
      obtain ⟨WO, hWO⟩ : ∃ WO, WO = wr := ⟨_, rfl⟩
      subst hWO
      have HR := Lib.hid (And.intro hq (And.intro hp (And.intro hmp (And.intro hgd (And.intro hln (And.intro hrr (And.intro hbl (And.intro hek hLe))))))))
      clear hq hp hmp hgd hln hrr hbl hek hLe
      go_upto_region 8 with fail
      rw [hwp]
      go_loopw [33, 8, 9] (fun i v8 v9 wr => ∃ (m : Nat) (ys : List En) (us : List Value) (s8 s9 : Option Addr) (c8 c9 : Nat), m ≤ M ∧ i = .int .i64 m ∧ v8 = .slice s8 ys.length c8 ∧ v9 = .slice s9 ys.length c9 ∧ wr.ownsRow (B + 1) 51 2 v8 ys.length (gcells (gts ys)) ∧ PthO wr (B + 1) ni v9 ys us ∧ MapP wr mb (ys.map (·.1)) ∧ LenD ys ∧ ys = innD a b e es m ∧ (∀ y : Nat, y < m → hitD a b e.1 (y : Int) = false) ∧ Below (B + 1) W2 wr) (fun i _ _ _ => M - (intOf i).toNat)
      case atStart => exact ⟨0, es, us, _, _, _, _, Nat.zero_le _, rfl, rfl, rfl, HR.out.1, HR.out.2.1, HR.out.2.2.1, HR.out.2.2.2.2.1, rfl, fun y hy => by omega, HR.out.2.2.2.2.2.2.1⟩
      case round =>
        obtain ⟨m, ys, us, s8, s9, c8, c9, hm, rfl, rfl, rfl, hq, hp, hmp, hln, hys, hnh, hbl⟩ := hrel
        have hgy : goodD NA NB ys := by rw [hys, HH.out.2.1, HH.out.2.2.1]; exact goodD_inn (by rw [← HH.out.2.1, ← HH.out.2.2.1]; exact HR.out.2.2.2.1) m
        have hly := goodD_len hgy
        rw [← HH.out.2.2.2.1] at hly
        have hyk : ys[k]? = some e := by rw [hys]; exact innD_get HR.out.2.2.2.2.2.2.2.1 m
        have hky : k < ys.length := (List.getElem?_eq_some_iff.1 hyk).1
        have hB1 : B + 1 ≤ wr.heap.size := by have := hbl.size; have := HW.out.2.2.2.2.lt; omega
        by_cases hlm : m < M
        · obtain ⟨h, hh⟩ : ∃ h, h = hitD a b e.1 (m : Int) := ⟨_, rfl⟩
          obtain ⟨p, hpp⟩ : ∃ p, p = e.1.1 := ⟨_, rfl⟩
          obtain ⟨q, hqq⟩ : ∃ q, q = e.1.2 := ⟨_, rfl⟩
          obtain ⟨na, hna⟩ : ∃ z, z = (stpD a b e.1 (m : Int)).1 := ⟨_, rfl⟩
          obtain ⟨nb, hnb⟩ : ∃ z, z = (stpD a b e.1 (m : Int)).2 := ⟨_, rfl⟩
          have hst : stpD a b e.1 (m : Int) = (na, nb) := by rw [hna, hnb]
          have HDF : Hid (∀ W, Below wr.heap.size wr W → Calls Try.prog (24) #[.agg #[.int .i64 p, .int .i64 q], .int .i64 m, .pointer (some ⟨ba, 0, none⟩), .pointer (some ⟨bb, 0, none⟩)] W fun e' w' => e' = .returned (.tuple #[.agg #[.int .i64 na, .int .i64 nb], .bool h]) ∧ Below W.heap.size W w') := fun W hW => by
            have hbW : Below w.heap.size w W := by
              have h1 := HW.out.1.trans (hbl.mono (Nat.le_succ _))
              rw [← HBe.out]
              exact h1.trans (hW.mono (by omega))
            have h9 := HU.out W e.1 m hbW p0 (by omega) r0 (by omega) (by omega)
            rw [hst, ← hh] at h9
            rw [hpp, hqq]
            exact h9
          obtain ⟨u, vs, hu1, hu2⟩ := hp.row k e hyk
          obtain ⟨su, cu, rfl⟩ := own_shape hu2.out
          have hrl : (rowsX ni e.2).length = L := by rw [rowsX_length]; exact HR.out.2.2.2.2.2.2.2.2.symm
          have hvl : vs.length = L := by rw [hu2.len]; exact hrl
          rw [hrl] at hu1 hu2
          have hu3 : OwnSB wr (B + 1) (.slice su L cu) vs (rowsX ni e.2) := hu2
          have hsv : Sl wr su vs := by have := hu2.out; rw [hrl] at this; exact own_sl this
          have hgk : (gts ys)[k]? = some ⟨p, q⟩ := by unfold gts; rw [List.getElem?_map, hyk, hpp, hqq]; rfl
          obtain ⟨yb, yo, rfl, hyb, z1, z2⟩ := (own_sl hq).gate (Below.refl _ _) hgk
          obtain ⟨pb, po, rfl, hpb, hcs⟩ := (own_sl hp.out).at (k := k) (by have := hp.out.1; simp at this; omega)
          have hpc0 : wr.cell? ⟨pb, po + k, none⟩ = some (.slice su L cu) := hcs _ _ hu1
          have HI := Lib.hid (And.intro hq (And.intro hp (And.intro hmp (And.intro hln (And.intro hys (And.intro hnh (And.intro hbl (And.intro hgy hu3))))))))
          have HJ := Lib.hid (And.intro hyk (And.intro hh (And.intro hst (And.intro hpc0 (And.intro hpb (And.intro hsv hvl))))))
          clear hq hp hmp hln hys hnh hbl hgy hu1 hu2 hu3 hsv hrl hgk hyk hh hst hcs hpc0 hna hnb hpp hqq hyb
          go_upto_region 11 with (go_at_call 24; ((with_reducible refine (HDF.out _ (Below.refl _ _)).mono ?_); rintro e3 w3 ⟨rfl, hq3⟩; have H3 := Lib.hid hq3; clear hq3 z1 z2))
          have hA := (Below.refl w3.heap.size w3).alloc (Nat.le_refl _) (.cells #[.int .i64 na, .int .i64 nb] 51)
          have hx := blk_new w3 (.cells #[.int .i64 na, .int .i64 nb] 51)
          have hb4 := H3.out.trans (hA.mono H3.out.size)
          obtain ⟨X, hX⟩ : ∃ X, X = w3.heap.size := ⟨_, rfl⟩
          rw [← hX] at hx
          rw [← hX]
          clear hX hA
          revert hb4 hx
          generalize w3.alloc (.cells #[.int .i64 na, .int .i64 nb] 51) = W4
          intro hb4 hx
          have H4 := Lib.hid (And.intro (Nat.le_trans hB1 hb4.size) (And.intro hx hb4))
          clear hb4 hx H3
          have cx := (blk_all H4.out.2.1).1
          have hpc : W4.cell? ⟨pb, po + k, none⟩ = some (.slice su L cu) := (H4.out.2.2.cell (p := ⟨pb, po + k, none⟩) HJ.out.2.2.2.2.1).trans HJ.out.2.2.2.1
          have HCL : Hid (∀ W, Below W4.heap.size W4 W → Calls Try.prog 48 #[.slice su L cu] W fun e w' => ∃ s' c', e = .returned (.slice s' L c') ∧ w'.ownsRow W.heap.size 44 1 (.slice s' L c') L vs ∧ Below W.heap.size W w') := fun W hW => by
            have h9 := cloneBB_any su cu vs W (HJ.out.2.2.2.2.2.1.mono (H4.out.2.2.trans (hW.mono H4.out.2.2.size))) HI.out.2.2.2.2.2.2.2.2.ones (by rw [HJ.out.2.2.2.2.2.2]; omega)
            rw [HJ.out.2.2.2.2.2.2] at h9
            exact h9
          cases h
          · have hlk : (Instr.lookup 81 (.map (some mb)) (.agg #[.int .i64 na, .int .i64 nb]) false).run Try.prog W4 = .ok (.bool (decide ((na, nb) ∈ ys.map (·.1)))) W4 := mapp_lookup (HI.out.2.2.1.below H4.out.2.2) (na, nb)
            have hinn : innD a b e es (m + 1) = addD ys (na, nb) (e.2 ++ [(m : Int)]) := by
              rw [innD_succ, ← HI.out.2.2.2.2.1, HJ.out.2.2.1]
            have hnh2 : ∀ y : Nat, y < m + 1 → hitD a b e.1 (y : Int) = false := fun y hy => by
              by_cases hym : y = m
              · subst hym; exact HJ.out.2.1.symm
              · exact HI.out.2.2.2.2.2.1 y (by omega)
            have HN := Lib.hid (And.intro hinn hnh2)
            clear hinn hnh2
            by_cases hmem : (na, nb) ∈ ys.map (·.1)
            · rw [decide_eq_true hmem] at hlk
              have HM := Lib.hid hmem
              clear hmem
              go_wp2_with fail
              go_roundw
              case rel => exact ⟨m + 1, ys, us, _, _, _, _, by omega, by go_num, rfl, rfl, own_below HI.out.1 H4.out.2.2, HI.out.2.1.below H4.out.2.2, HI.out.2.2.1.below H4.out.2.2, HI.out.2.2.2.1, by rw [HN.out.1, addD_in HM.out], HN.out.2, HI.out.2.2.2.2.2.2.1.trans (H4.out.2.2.mono hB1)⟩
              case measure => simp [intOf]; omega
            · rw [decide_eq_false hmem] at hlk
              have HM := Lib.hid hmem
              clear hmem
              go_upto_region 13 with (first
                | (go_at_call 48; (with_reducible refine (HCL.out _ (Below.refl _ _)).mono ?_); rintro e5 w5 ⟨s5, c5, rfl, h5, hq5⟩; have H5 := Lib.hid (And.intro h5 hq5); clear h5 hq5 hpc)
                | (go_at_call 45; (with_reducible refine (bitsOf_own (m : Int) ni _ (by omega) (by omega) (by omega)).mono ?_); rintro e6 w6 ⟨s6, rfl, h6, hq6⟩; have H6 := Lib.hid (And.intro h6 hq6); clear h6 hq6)
                | (at_builtin; refine wpl_app rfl _ _ rfl elem_bss2 (own_below (own_below H5.out.1 H6.out.2) ((Below.refl w6.heap.size w6).alloc (Nat.le_refl _) (.cells #[.slice s6 ni ni] 44))) rfl rfl rfl (Sl.new _ _ _) (by simp [Value.oneCell']) (L + 1) rfl (vs ++ [.slice s6 ni ni]) rfl (by unfold maxLen; omega) (by omega) (by have h1 := H5.out.2.size; have h2 := H6.out.2.size; simp; omega) ?_; intro s7 c7 w7 h7 hb7 hg7 ho7; have H7 := Lib.hid (path_own H4.out.1 HI.out.2.2.2.2.2.2.2.2 HR.out.2.2.2.2.2.2.2.2.symm H4.out.2.2 H5.out.1 H5.out.2 H6.out.1 H6.out.2 h7 hb7 hg7); clear h7 hb7 hg7 ho7))
              clear hlk cx
              have hb17 : Below wr.heap.size wr w7 := H4.out.2.2.trans (H7.out.2.mono H4.out.2.2.size)
              have hx7 := blk_below H7.out.2 (blk_lt H4.out.2.1) H4.out.2.1
              obtain ⟨W8, hrun, hmo, hgr, hsz8⟩ := mapp_update (HI.out.2.2.1.below hb17) (na, nb) HM.out
              have hrun2 : (Instr.mapUpdate 81 (.map (some mb)) (.agg #[.int .i64 na, .int .i64 nb]) (.bool true)).run Try.prog w7 = .ok () W8 := hrun
              have hmlt := (HI.out.2.2.1.below hb17).lt
              have hB8 : B + 1 ≤ W8.heap.size := by have := hb17.size; omega
              have hbm : Below (B + 1) w7 W8 := ⟨hgr.os, hgr.tape, hgr.output, hgr.size, fun q hq => hgr.block q (by have := hb17.size; omega) (by simp; omega)⟩
              have hq8 := (Chg.of_grown hgr).own (own_below HI.out.1 hb17) (fun q hq e => own_nomapp (own_below HI.out.1 hb17) (HI.out.2.2.1.below hb17) (by rw [hq]; exact e.symm))
              have hp8 := (HI.out.2.1.below hb17).keep (Chg.of_grown hgr) (fun t u n xs _ ho k hk e => own_nomapp ho (HI.out.2.2.1.below hb17) (by rw [hk]; exact e.symm))
              have hu8 := H7.out.1.keep (Chg.of_grown hgr) (fun u n xs ho k hk e => own_nomapp ho (HI.out.2.2.1.below hb17) (by rw [hk]; exact e.symm)) (fun u n xs ho k hk e => own_nomapp ho (HI.out.2.2.1.below hb17) (by rw [hk]; exact e.symm))
              have hXne : X ≠ mb := fun e => by rw [e] at hx7; exact (HI.out.2.2.1.below hb17).nocell hx7
              have hx8 : W8.heap[X]? = some (.cells #[.int .i64 na, .int .i64 nb] 51 (0, 0)) := by rw [hgr.block X (blk_lt hx7) (by simp; exact hXne)]; exact hx7
              have cx7 := (blk_all hx7).1
              have cx8 := (blk_all hx8).1
              have H8 := Lib.hid (And.intro hq8 (And.intro hp8 (And.intro hmo (And.intro hu8 ((HI.out.2.2.2.2.2.2.1.trans (hb17.mono hB1)).trans hbm)))))
              clear hq8 hp8 hmo hu8 hbm hgr hsz8 hrun hXne hx7 hx8 hb17
              go_upto_region 22 with fail
              clear hrun2 cx7
              go_upto_region 23 with (at_builtin; refine wpl_app rfl _ _ rfl elem_p2 (own_below H8.out.1 ((Below.refl W8.heap.size W8).alloc (Nat.le_refl _) (.cells #[.int .i64 na, .int .i64 nb] 51))) rfl rfl rfl (Sl.new _ _ _) (by simp [Value.oneCell']) (ys.length + 1) rfl (gcells (gts ys ++ [⟨na, nb⟩])) (by rw [← gcells_app]; rfl) (by unfold maxLen; omega) (by omega) (by simp; omega) ?_; intro s9' c9' w9 h9 hb9 hg9 ho9; have H9 := Lib.hid (And.intro h9 (And.intro ((H8.out.2.1.below ((Below.refl W8.heap.size W8).alloc (Nat.le_refl _) (.cells #[.int .i64 na, .int .i64 nb] 51))).keep (Chg.of_grown hg9) (fun t u n xs ht ho => fun k hk => own_ty ho (own_below H8.out.1 ((Below.refl W8.heap.size W8).alloc (Nat.le_refl _) (.cells #[.int .i64 na, .int .i64 nb] 51))) (by rcases ht with rfl | rfl | rfl <;> decide) hk)) (And.intro ((H8.out.2.2.1.below ((Below.refl W8.heap.size W8).alloc (Nat.le_refl _) (.cells #[.int .i64 na, .int .i64 nb] 51))).chgne hg9 (own_nomapp (own_below H8.out.1 ((Below.refl W8.heap.size W8).alloc (Nat.le_refl _) (.cells #[.int .i64 na, .int .i64 nb] 51))) (H8.out.2.2.1.below ((Below.refl W8.heap.size W8).alloc (Nat.le_refl _) (.cells #[.int .i64 na, .int .i64 nb] 51))))) (And.intro ((H8.out.2.2.2.1.below ((Below.refl W8.heap.size W8).alloc (Nat.le_refl _) (.cells #[.int .i64 na, .int .i64 nb] 51))).keep (Chg.of_grown hg9) (fun u n xs ho k hk => own_ty ho (own_below H8.out.1 ((Below.refl W8.heap.size W8).alloc (Nat.le_refl _) (.cells #[.int .i64 na, .int .i64 nb] 51))) (by decide) hk) (fun u n xs ho k hk => own_ty ho (own_below H8.out.1 ((Below.refl W8.heap.size W8).alloc (Nat.le_refl _) (.cells #[.int .i64 na, .int .i64 nb] 51))) (by decide) hk)) ((H8.out.2.2.2.2.alloc hB8 _).trans hb9))))); have hB9 : B + 1 ≤ w9.heap.size := (by have h1 := hb9.size; simp at h1; omega); clear h9 hb9 hg9 ho9 cx8)
              go_wp2_with (at_builtin; refine wpl_app rfl _ _ rfl elem_bsss (own_below H9.out.2.1.out ((Below.refl w9.heap.size w9).alloc (Nat.le_refl _) (.cells #[.slice s7 (L + 1) c7] 27))) rfl rfl rfl (Sl.new _ _ _) (by simp [Value.oneCell']) (ys.length + 1) rfl (us ++ [.slice s7 (L + 1) c7]) rfl (by unfold maxLen; omega) (by omega) (by simp; omega) ?_; intro sA cA wA hA hbA hgA hoA; have HA := Lib.hid (And.intro ((Chg.of_grown hgA).own (own_below H9.out.1 ((Below.refl w9.heap.size w9).alloc (Nat.le_refl _) (.cells #[.slice s7 (L + 1) c7] 27))) (fun k hk => own_ty (own_below H9.out.1 ((Below.refl w9.heap.size w9).alloc (Nat.le_refl _) (.cells #[.slice s7 (L + 1) c7] 27))) (own_below H9.out.2.1.out ((Below.refl w9.heap.size w9).alloc (Nat.le_refl _) (.cells #[.slice s7 (L + 1) c7] 27))) (by decide) hk)) (And.intro ((H9.out.2.1.below ((Below.refl w9.heap.size w9).alloc (Nat.le_refl _) (.cells #[.slice s7 (L + 1) c7] 27))).push (e := ((na, nb), e.2 ++ [(m : Int)])) (H9.out.2.2.2.1.below ((Below.refl w9.heap.size w9).alloc (Nat.le_refl _) (.cells #[.slice s7 (L + 1) c7] 27))) hgA hA) (And.intro ((H9.out.2.2.1.below ((Below.refl w9.heap.size w9).alloc (Nat.le_refl _) (.cells #[.slice s7 (L + 1) c7] 27))).chgne hgA (own_nomapp (own_below H9.out.2.1.out ((Below.refl w9.heap.size w9).alloc (Nat.le_refl _) (.cells #[.slice s7 (L + 1) c7] 27))) (H9.out.2.2.1.below ((Below.refl w9.heap.size w9).alloc (Nat.le_refl _) (.cells #[.slice s7 (L + 1) c7] 27))))) ((H9.out.2.2.2.2.alloc hB9 _).trans hbA)))); clear hA hbA hgA hoA)
              have el : (ys ++ [((na, nb), e.2 ++ [(m : Int)])]).length = ys.length + 1 := by simp
              have eg : gts (ys ++ [((na, nb), e.2 ++ [(m : Int)])]) = gts ys ++ [⟨na, nb⟩] := by simp [gts]
              have em : (ys ++ [((na, nb), e.2 ++ [(m : Int)])]).map (·.1) = ys.map (·.1) ++ [(na, nb)] := by simp
              have HEL := Lib.hid (And.intro el (And.intro eg em))
              clear el eg em
              go_roundw
              case rel => exact ⟨m + 1, ys ++ [((na, nb), e.2 ++ [(m : Int)])], us ++ [.slice s7 (L + 1) c7], s9', sA, c9', cA, by omega, by go_num, by rw [HEL.out.1], by rw [HEL.out.1], by rw [HEL.out.1, HEL.out.2.1]; exact HA.out.1, HA.out.2.1, by rw [HEL.out.2.2]; exact HA.out.2.2.1, HI.out.2.2.2.1.add HJ.out.1 _ _, by rw [HN.out.1, addD_out HM.out], HN.out.2, HA.out.2.2.2⟩
              case measure => simp [intOf]; omega
          · have hRf : R = some (e.2 ++ [(m : Int)]) := by
              rw [← HR.out.2.2.2.2.2.1]
              exact outD_hit HR.out.2.2.2.2.2.2.2.1 hlm HJ.out.2.1.symm HI.out.2.2.2.2.2.1
            have HRF := Lib.hid hRf
            clear hRf
            go_upto_region 16 with (first
              | (go_at_call 48; (with_reducible refine (HCL.out _ (Below.refl _ _)).mono ?_); rintro e5 w5 ⟨s5, c5, rfl, h5, hq5⟩; have H5 := Lib.hid (And.intro h5 hq5); clear h5 hq5 hpc)
              | (go_at_call 45; (with_reducible refine (bitsOf_own (m : Int) ni _ (by omega) (by omega) (by omega)).mono ?_); rintro e6 w6 ⟨s6, rfl, h6, hq6⟩; have H6 := Lib.hid (And.intro h6 hq6); clear h6 hq6)
              | (at_builtin; refine wpl_app rfl _ _ rfl elem_bss2 (own_below (own_below H5.out.1 H6.out.2) ((Below.refl w6.heap.size w6).alloc (Nat.le_refl _) (.cells #[.slice s6 ni ni] 44))) rfl rfl rfl (Sl.new _ _ _) (by simp [Value.oneCell']) (L + 1) rfl (vs ++ [.slice s6 ni ni]) rfl (by unfold maxLen; omega) (by omega) (by have h1 := H5.out.2.size; have h2 := H6.out.2.size; simp; omega) ?_; intro s7 c7 w7 h7 hb7 hg7 ho7; have H7 := Lib.hid (path_own H4.out.1 HI.out.2.2.2.2.2.2.2.2 HR.out.2.2.2.2.2.2.2.2.symm H4.out.2.2 H5.out.1 H5.out.2 H6.out.1 H6.out.2 h7 hb7 hg7); clear h7 hb7 hg7 ho7))
            obtain ⟨rows, hrows⟩ : ∃ rows, rows = rowsX ni (e.2 ++ [(m : Int)]) := ⟨_, rfl⟩
            have hrl : rows.length = L + 1 := by rw [hrows, rowsX_length, HR.out.2.2.2.2.2.2.2.2]; simp
            have hrn : ∀ r ∈ rows, r.length = ni := fun r hr => by rw [hrows] at hr; unfold rowsX at hr; obtain ⟨x, _, rfl⟩ := List.mem_map.1 hr; exact bitsV_length _ _
            have hsb : SlB w7 s7 rows := by
              have h1 := H7.out.1
              rw [← hrows, ← hrl] at h1
              exact h1.slb
            have HB7 := Lib.hid (And.intro hrows (And.intro hrl (And.intro hrn (And.intro hsb (HI.out.2.2.2.2.2.2.1.trans ((H4.out.2.2.trans (H7.out.2.mono H4.out.2.2.size)).mono hB1))))))
            clear hrows hrl hrn hsb cx
            go_loopw [66, 16] (fun j v16 wr => ∃ (n : Nat) (s16 : Option Addr) (c16 : Nat) (ws : List Value), n ≤ L + 1 ∧ j = .int .i64 n ∧ v16 = .slice s16 n c16 ∧ OwnSB wr w7.heap.size (.slice s16 n c16) ws (rows.take n) ∧ Below w7.heap.size w7 wr) (fun j _ _ => L + 1 - (intOf j).toNat)
            case atStart => exact ⟨0, _, _, [], Nat.zero_le _, rfl, rfl, OwnSB.nil _ _, Below.refl _ _⟩
            case round =>
              obtain ⟨n, s16, c16, ws, hn, rfl, rfl, ho, hb⟩ := hrel
              have htl : (rows.take n).length = n := by rw [List.length_take, HB7.out.2.1]; omega
              by_cases hln : n < L + 1
              · obtain ⟨r, hr⟩ := get_of_lt (l := rows) (k := n) (by rw [HB7.out.2.1]; exact hln)
                have hrni := HB7.out.2.2.1 r (List.mem_of_getElem? hr)
                obtain ⟨rb, ro, sr, cr, rfl, hrb, zr, hsr⟩ := HB7.out.2.2.2.1.row hb hr
                rw [hrni] at zr
                have HRC : Hid (∀ W, Below wr.heap.size wr W → Calls Try.prog 49 #[.slice sr ni cr] W fun e w' => ∃ s' c', e = .returned (.slice s' ni c') ∧ w'.ownsRow W.heap.size 4 1 (.slice s' ni c') ni (bools r) ∧ Below W.heap.size W w') := fun W hW => by
                  have h9 := cloneB_any sr cr r W (hsr.mono (hb.trans (hW.mono hb.size))) (by omega)
                  rw [hrni] at h9
                  exact h9
                have HO := Lib.hid (And.intro ho (And.intro hb (And.intro hr (And.intro htl hrni))))
                have hb7 := hb.size
                clear ho hb hr htl hsr hrb hrni
                go_wp2_with (first
                  | (go_at_call 49; (with_reducible refine (HRC.out _ (Below.refl _ _)).mono ?_); rintro e9 w9 ⟨s9', c9', rfl, h9, hq9⟩; have H9 := Lib.hid (And.intro h9 hq9); have hz9 := hq9.size; clear h9 hq9 zr)
                  | (at_builtin; refine wpl_app rfl _ _ rfl elem_bss2 (by have h1 := HO.out.1.out; rw [HO.out.2.2.2.1] at h1; exact own_below (own_below h1 H9.out.2) ((Below.refl w9.heap.size w9).alloc (Nat.le_refl _) (.cells #[.slice s9' ni c9'] 44))) rfl rfl rfl (Sl.new _ _ _) (by simp [Value.oneCell']) (n + 1) rfl (ws ++ [.slice s9' ni c9']) rfl (by unfold maxLen; omega) (by omega) (by simp; omega) ?_; intro sA cA wA hA hbA hgA hoA; have HA := Lib.hid (And.intro (((HO.out.1.below H9.out.2).below ((Below.refl w9.heap.size w9).alloc (Nat.le_refl _) (.cells #[.slice s9' ni c9'] 44))).push (r := r) (by rw [HO.out.2.2.2.2]; exact own_base (own_below H9.out.1 ((Below.refl w9.heap.size w9).alloc (Nat.le_refl _) (.cells #[.slice s9' ni c9'] 44))) hb7) (fun k u' hk hu' e => by
                      have a1 := (own_blk H9.out.1 hk).1
                      obtain ⟨i, hi⟩ := List.mem_iff_getElem?.1 hu'
                      obtain ⟨r', hr'⟩ := HO.out.1.rget hi
                      have a2 := (own_blk (HO.out.1.row i u' r' hi hr') e).2
                      omega) hgA (by rw [HO.out.2.2.2.1]; exact hA)) (((HO.out.2.1.trans (H9.out.2.mono hb7)).alloc (by omega) _).trans hbA)); clear hA hbA hgA hoA))
                go_roundw
                case rel => exact ⟨n + 1, sA, cA, ws ++ [.slice s9' ni c9'], by omega, by go_num, rfl, by rw [List.take_add_one, HO.out.2.2.1]; exact HA.out.1, HA.out.2⟩
                case measure => simp [intOf]; omega
              · obtain rfl : n = L + 1 := by omega
                have hfull : rows.take (L + 1) = rows := List.take_of_length_le (by rw [HB7.out.2.1]; exact Nat.le_refl _)
                rw [hfull] at ho
                have HO := Lib.hid (And.intro ho hb)
                clear ho hb htl hfull
                go_wp2_with fail
                have hbz : Below w.heap.size w wr := by
                  rw [← HBe.out]
                  have h1 := HB7.out.2.2.2.2.size
                  have h2 := HW.out.2.2.2.2.lt
                  exact (HW.out.1.trans (HB7.out.2.2.2.2.mono (Nat.le_succ _))).trans (HO.out.2.mono (by omega))
                exact bodyPost_ret (v := .tuple #[.slice s16 (L + 1) c16, .bool true]) (by simp [results, Try.results26, go_sem]) rfl ⟨s16, c16, ws, by rw [HRF.out, Option.elim_some, ← HB7.out.1, HB7.out.2.1]; rfl, by rw [HRF.out, Option.elim_some, ← HB7.out.1, HB7.out.2.1]; exact HO.out.1.base (by have h1 := HB7.out.2.2.2.2.size; have h2 := HW.out.2.2.2.2.lt; have h3 := HBe.out; omega), hbz⟩
        · obtain rfl : m = M := by omega
          have HI := Lib.hid (And.intro hq (And.intro hp (And.intro hmp (And.intro hln (And.intro hys (And.intro hnh (And.intro hbl hgy)))))))
          clear hq hp hmp hln hys hnh hbl hgy hyk
          go_wp2_with fail
          go_roundw
          case rel => exact ⟨k + 1, ys, us, _, _, _, _, f, by omega, by go_num, rfl, rfl, HI.out.1, HI.out.2.1, HI.out.2.2.1, HI.out.2.2.2.2.2.2.2, HI.out.2.2.2.1, by rw [HI.out.2.2.2.2.1, ← HR.out.2.2.2.2.2.1, outD_step HR.out.2.2.2.2.2.2.2.1 HI.out.2.2.2.2.2.1], HI.out.2.2.2.2.2.2.1⟩
          case measure => simp [intOf]; omega
    · rw [outD_end hlt] at hrr
      subst hrr
      have HR := Lib.hid hbl
      clear hq hp hmp hgd hln hbl
      go_wp2_with fail
      have hbz : Below w.heap.size w wr := by
        rw [← HBe.out]
        exact HW.out.1.trans (HR.out.mono (Nat.le_succ _))
      exact bodyPost_ret (v := .tuple #[.slice none 0 0, .bool false]) (by simp [results, Try.results26, go_sem]) rfl ⟨none, 0, [], rfl, OwnSB.nil _ _, hbz⟩

end Go.Proofs.Ytgadinaninkmoaa
