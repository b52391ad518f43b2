import Derived.Test.YtgadinaninkmoaaDI
import Derived.Test.YtgadinaninkmoaaH4
namespace Go.Proofs.Ytgadinaninkmoaa
set_option linter.unusedVariables false
set_option linter.unusedSimpArgs false
open Go.RowKit

/-! Distinguish of the reference. -/

def DisPostA (r : Option (List Int)) (ni : Nat) (w : World) (e : Ending) (w' : World) : Prop :=
  ∃ s cap, e = .returned (.agg #[.bool r.isSome, .slice s (r.elim [] (rowsX ni)).length cap]) ∧ SlBA w' w.heap.size s (r.elim [] (rowsX ni)) ∧ Below w.heap.size w w'
theorem SlBA.nil' (w : World) (B : Nat) : SlBA w B none [] := ⟨[], rfl, Sl.nil _ _, by simp, by simp, fun i r h => by simp at h⟩
theorem SlBA.low {w : World} {B B2 : Nat} {s : Option Addr} {rows : List (List Bool)} (h : SlBA w B s rows) (hb : B2 ≤ B) : SlBA w B2 s rows := by
  obtain ⟨vs, h1, h2, h3, h4, h5⟩ := h
  exact ⟨vs, h1, h2, fun a ha => Nat.le_trans hb (h3 a ha), h4, fun i r hr => by obtain ⟨si, ci, e1, e2, e3⟩ := h5 i r hr; exact ⟨si, ci, e1, e2, fun a ha => Nat.le_trans hb (e3 a ha)⟩⟩
def DisPost (r : Option (List Int)) (ni : Nat) (w : World) (e : Ending) (w' : World) : Prop :=
  ∃ s cap, e = .returned (.agg #[.bool r.isSome, .slice s (r.elim [] (rowsX ni)).length cap]) ∧ SlB w' s (r.elim [] (rowsX ni)) ∧ Below w.heap.size w w'
theorem SlB.nil' (w : World) : SlB w none [] := ⟨[], rfl, Sl.nil _ _, fun i r h => by simp at h⟩
theorem tri_new (w : World) (base : Nat) (hb : base ≤ w.heap.size) (x : Int) (T : TypeId) (hT : T = 3) : TriO (((w.alloc (.cells #[.int .i64 x] T)).alloc (.cells #[.int .i64 0] T)).alloc (.cells #[.int .i64 0] T)) base 1 1 1 (.slice (some ⟨w.heap.size, 0, none⟩) 1 1) (.slice (some ⟨w.heap.size + 1, 0, none⟩) 1 1) (.slice (some ⟨w.heap.size + 1 + 1, 0, none⟩) 1 1) [x] [0] [0] := by
  subst hT
  obtain ⟨h1, h2, h3, -⟩ := blk3 w (.cells #[.int .i64 x] 3) (.cells #[.int .i64 0] 3) (.cells #[.int .i64 0] 3)
  refine ⟨own_of_blk (n := 1) (cur := #[.int .i64 x]) h1 hb (by simp) (by unfold maxLen; omega), own_of_blk (n := 1) (cur := #[.int .i64 0]) h2 (by omega) (by simp) (by unfold maxLen; omega), own_of_blk (n := 1) (cur := #[.int .i64 0]) h3 (by omega) (by simp) (by unfold maxLen; omega), ?_, ?_, ?_⟩
  all_goals
    intro k h e
    simp [Value.ownBlock] at h e
    omega

set_option maxRecDepth 100000 in
set_option maxHeartbeats 6400000 in
theorem Distinguish_sA (u v : Value) (a b : Cir) (w : World) (ha : CirV w u a) (hb : CirV w v b) :
    Calls Try.prog 5 #[u, v] w (DisPostA (disR a b) a.inp.toNat w) := by
  have HG := Lib.hid (And.intro ha hb)
  obtain ⟨sn, cn, sg, cg, so, co, rfl, -, -, -, ka1, ka2, ka3⟩ := ha
  obtain ⟨tn, dn, tg, dg, to_, do_, rfl, -, -, -, kb1, kb2, kb3⟩ := hb
  obtain ⟨W0, hW0⟩ : ∃ W0, W0 = (((w.alloc (.cells #[.int .i64 a.inp, .slice sn a.next.length cn, .slice sg a.gates.length cg, .slice so a.outs.length co] 33)).alloc (.cells #[.int .i64 b.inp, .slice tn b.next.length dn, .slice tg b.gates.length dg, .slice to_ b.outs.length do_] 33)).alloc (.cells #[.bool false, .slice none 0 0] 29)) := ⟨_, rfl⟩
  obtain ⟨A, hA⟩ : ∃ A, A = w.heap.size := ⟨_, rfl⟩
  have z1 : W0.heap.size = A + 3 := by rw [hW0, hA]; simp
  have z2 : W0.heap[A]? = some (.cells #[.int .i64 a.inp, .slice sn a.next.length cn, .slice sg a.gates.length cg, .slice so a.outs.length co] 33 (0, 0)) := by rw [hW0, hA]; exact blk_old (blk_old (blk_new w _))
  have z3 : W0.heap[A + 1]? = some (.cells #[.int .i64 b.inp, .slice tn b.next.length dn, .slice tg b.gates.length dg, .slice to_ b.outs.length do_] 33 (0, 0)) := by rw [hW0, hA]; exact blk_old (blk_at (by simp))
  have z5 : W0.heap[A + 2]? = some (.cells #[.bool false, .slice none 0 0] 29 (0, 0)) := by rw [hW0, hA]; exact blk_at (by simp)
  have z4 : Below w.heap.size w W0 := by rw [hW0]; go_grown
  have HW := Lib.hid (And.intro hW0 (And.intro hA z1))
  have HB : Hid (∀ W, Below (A + 3) W0 W → W.heap[A]? = some (.cells #[.int .i64 a.inp, .slice sn a.next.length cn, .slice sg a.gates.length cg, .slice so a.outs.length co] 33 (0, 0)) ∧ W.heap[A + 1]? = some (.cells #[.int .i64 b.inp, .slice tn b.next.length dn, .slice tg b.gates.length dg, .slice to_ b.outs.length do_] 33 (0, 0)) ∧ CirV W (.agg #[.int .i64 a.inp, .slice sn a.next.length cn, .slice sg a.gates.length cg, .slice so a.outs.length co]) a ∧ CirV W (.agg #[.int .i64 b.inp, .slice tn b.next.length dn, .slice tg b.gates.length dg, .slice to_ b.outs.length do_]) b ∧ Below w.heap.size w W ∧ W.heap[A + 2]? = some (.cells #[.bool false, .slice none 0 0] 29 (0, 0)) ∧ A + 3 ≤ W.heap.size) := fun W hW => ⟨blk_below hW (by omega) z2, blk_below hW (by omega) z3, HG.out.1.mono (z4.trans (hW.mono (by have := z4.size; omega))), HG.out.2.mono (z4.trans (hW.mono (by have := z4.size; omega))), z4.trans (hW.mono (by have := z4.size; omega)), blk_below hW (by omega) z5, by have := hW.size; omega⟩
  clear hW0 hA z1 z2 z3 z4 z5
  cases h1 : a.validB
  · have hs : cmpB a b = false := by simp [cmpB, h1]
    have HE := Lib.hid (disR_no hs)
    have HV := Lib.hid h1
    clear h1 hs
    go_enter Try.func5, Try.ntmps5
    go_upto_region 1 with fail
    rw [← HW.out.1]
    try rw [← HW.out.2.1]
    have ca := (blk_all (HB.out _ (Below.refl _ _)).1).1
    have cb := (blk_all (HB.out _ (Below.refl _ _)).2.1).1
    go_wp2_with (first | (go_at_call 15; ((with_reducible refine (CircuitValid_s _ a _ (HB.out _ (Below.refl _ _)).2.2.1).mono ?_); rintro e w1 ⟨rfl, hq⟩; rw [HV.out]; have H1 : Hid (Below (A + 3) W0 w1) := (by have h := HW.out.2.2; exact hq.mono (by omega)); clear hq ca cb; obtain ⟨rc, rf⟩ := blk_all (HB.out _ H1.out).2.2.2.2.2.1)))
    clear rc rf
    have hZ : ((w1.setCell ⟨A + 2, 0, none⟩ (.bool false)).setCell ⟨A + 2, 1, none⟩ (.slice none 0 0)).heap[A + 2]? = some (.cells #[.bool false, .slice none 0 0] 29 (0, 0)) := by
      simpa using blk_set (o := 1) (v := .slice none 0 0) (blk_set (o := 0) (v := .bool false) (HB.out _ H1.out).2.2.2.2.2.1)
    have hA2 := HW.out.2.1
    have hbz := ((HB.out _ H1.out).2.2.2.2.1.setCell (p := ⟨A + 2, 0, none⟩) (by simp; omega) (.bool false)).setCell (p := ⟨A + 2, 1, none⟩) (by simp; omega) (.slice none 0 0)
    revert hZ hbz
    generalize ((w1.setCell ⟨A + 2, 0, none⟩ (.bool false)).setCell ⟨A + 2, 1, none⟩ (.slice none 0 0)) = WZ
    intro hZ hbz
    have cr := (blk_all hZ).1
    exact bodyPost_ret (v := .agg #[.bool false, .slice none 0 0]) (by simp [results, Try.results5, go_sem, cr]) rfl (by rw [HE.out]; exact ⟨none, 0, rfl, SlBA.nil' _ _, hbz⟩)
  · cases h2 : b.validB
    · have hs : cmpB a b = false := by simp [cmpB, h2]
      have HE := Lib.hid (disR_no hs)
      have HV := Lib.hid (And.intro h1 h2)
      clear h1 h2 hs
      go_enter Try.func5, Try.ntmps5
      go_upto_region 1 with fail
      rw [← HW.out.1]
      try rw [← HW.out.2.1]
      have ca := (blk_all (HB.out _ (Below.refl _ _)).1).1
      have cb := (blk_all (HB.out _ (Below.refl _ _)).2.1).1
      go_wp2_with (first | (go_at_call 15; ((with_reducible refine (CircuitValid_s _ a _ (HB.out _ (Below.refl _ _)).2.2.1).mono ?_); rintro e w1 ⟨rfl, hq⟩; rw [HV.out.1]; have H1 : Hid (Below (A + 3) W0 w1) := (by have h := HW.out.2.2; exact hq.mono (by omega)); clear hq ca cb; have ca := (blk_all (HB.out _ H1.out).1).1; have cb := (blk_all (HB.out _ H1.out).2.1).1)) | (go_at_call 15; ((with_reducible refine (CircuitValid_s _ b _ (HB.out _ H1.out).2.2.2.1).mono ?_); rintro e w2 ⟨rfl, hq⟩; rw [HV.out.2]; have H2 : Hid (Below (A + 3) W0 w2) := H1.out.trans (hq.mono (HB.out _ H1.out).2.2.2.2.2.2); clear hq ca cb; have ca := (blk_all (HB.out _ H2.out).1).1; have cb := (blk_all (HB.out _ H2.out).2.1).1; obtain ⟨rc, rf⟩ := blk_all (HB.out _ H2.out).2.2.2.2.2.1)))
      clear rc rf
      have hZ : ((w2.setCell ⟨A + 2, 0, none⟩ (.bool false)).setCell ⟨A + 2, 1, none⟩ (.slice none 0 0)).heap[A + 2]? = some (.cells #[.bool false, .slice none 0 0] 29 (0, 0)) := by
        simpa using blk_set (o := 1) (v := .slice none 0 0) (blk_set (o := 0) (v := .bool false) (HB.out _ H2.out).2.2.2.2.2.1)
      have hA2 := HW.out.2.1
      have hbz := ((HB.out _ H2.out).2.2.2.2.1.setCell (p := ⟨A + 2, 0, none⟩) (by simp; omega) (.bool false)).setCell (p := ⟨A + 2, 1, none⟩) (by simp; omega) (.slice none 0 0)
      revert hZ hbz
      generalize ((w2.setCell ⟨A + 2, 0, none⟩ (.bool false)).setCell ⟨A + 2, 1, none⟩ (.slice none 0 0)) = WZ
      intro hZ hbz
      have cr := (blk_all hZ).1
      exact bodyPost_ret (v := .agg #[.bool false, .slice none 0 0]) (by simp [results, Try.results5, go_sem, cr]) rfl (by rw [HE.out]; exact ⟨none, 0, rfl, SlBA.nil' _ _, hbz⟩)
    · by_cases e1 : a.inp = b.inp
      · by_cases e3 : a.outs.length = b.outs.length
        · have e0 := disR_yes (cmpB_iff.2 ⟨h1, h2, e1, e3⟩)
          have hva := a.validB_iff.1 h1
          have hvb := b.validB_iff.1 h2
          obtain ⟨qa1, qa2, qa3, -, qa5⟩ := id hva.lim
          obtain ⟨-, -, qb3, -, -⟩ := id hvb.lim
          obtain ⟨ni, hni⟩ : ∃ ni : Nat, a.inp = ni := ⟨a.inp.toNat, by omega⟩
          have n4 : ni ≤ 4 := by omega
          obtain ⟨M, hM⟩ : ∃ M, M = 2 ^ ni := ⟨_, rfl⟩
          obtain ⟨NA, hNA⟩ : ∃ NA, NA = 2 ^ a.next.length := ⟨_, rfl⟩
          obtain ⟨NB, hNB⟩ : ∃ NB, NB = 2 ^ b.next.length := ⟨_, rfl⟩
          obtain ⟨N, hN⟩ : ∃ N, N = NA * NB := ⟨_, rfl⟩
          have hwp : wrap64 (2 ^ ni) = (M : Int) := by rw [wrap_pow (by omega), hM]; simp
          have M16 : M ≤ 16 := by rw [hM]; exact Nat.le_trans (Nat.pow_le_pow_right (by decide) n4) (by decide)
          have NA8 : NA ≤ 8 := by rw [hNA]; exact Nat.le_trans (Nat.pow_le_pow_right (by decide) qa3) (by decide)
          have NB8 : NB ≤ 8 := by rw [hNB]; exact Nat.le_trans (Nat.pow_le_pow_right (by decide) qb3) (by decide)
          have N64 : N ≤ 64 := by rw [hN]; exact Nat.le_trans (Nat.mul_le_mul NA8 NB8) (by decide)
          have hR0 : disR a b = outD a b M N 0 [((0, 0), [])] := by rw [e0, hN, hNA, hNB, hM]; unfold disD; rw [hni]; rfl
          obtain ⟨R, hR⟩ : ∃ R, R = disR a b := ⟨_, rfl⟩
          rw [← hR]
          have hg0 : goodD NA NB [((0, 0), [])] := by rw [hNA, hNB]; exact goodD_start a b
          have HV := Lib.hid (And.intro h1 h2)
          have HH := Lib.hid (And.intro hva (And.intro hvb (And.intro hNA (And.intro hNB (And.intro hN (And.intro (hR.trans hR0) (And.intro hg0 (And.intro e3 hni))))))))
          rw [← e1, ← e3, hni] at HW HB
          rw [← e1, ← e3, hni, Int.toNat_natCast]
          clear e0 hva hvb hM hNA hNB hN hR0 hg0 h1 h2 e1 e3 hR hni
          go_enter Try.func5, Try.ntmps5
          go_upto_region 1 with fail
          rw [← HW.out.1]
          try rw [← HW.out.2.1]
          have ca := (blk_all (HB.out _ (Below.refl _ _)).1).1
          have cb := (blk_all (HB.out _ (Below.refl _ _)).2.1).1

          go_upto_region 3 with (first | (go_at_call 15; ((with_reducible refine (CircuitValid_s _ a _ (HB.out _ (Below.refl _ _)).2.2.1).mono ?_); rintro e w1 ⟨rfl, hq⟩; rw [HV.out.1]; have H1 : Hid (Below (A + 3) W0 w1) := (by have h := HW.out.2.2; exact hq.mono (by omega)); clear hq ca cb; have ca := (blk_all (HB.out _ H1.out).1).1; have cb := (blk_all (HB.out _ H1.out).2.1).1)) | (go_at_call 15; ((with_reducible refine (CircuitValid_s _ b _ (HB.out _ H1.out).2.2.2.1).mono ?_); rintro e w2 ⟨rfl, hq⟩; rw [HV.out.2]; have H2 : Hid (Below (A + 3) W0 w2) := H1.out.trans (hq.mono (HB.out _ H1.out).2.2.2.2.2.2); clear hq ca cb; have ca := (blk_all (HB.out _ H2.out).1).1; have cb := (blk_all (HB.out _ H2.out).2.1).1)))
          clear ca cb
          have hbA := (HB.out _ H2.out).2.2.2.2.2.2
          have hT := tri_new w2 (A + 3) hbA 0 _ rfl
          have hb3 : Below (A + 3) W0 (((w2.alloc (.cells #[.int .i64 0] 3)).alloc (.cells #[.int .i64 0] 3)).alloc (.cells #[.int .i64 0] 3)) := ((H2.out.alloc hbA _).alloc (by simp; omega) _).alloc (by simp; omega) _
          go_upto_region 7 with fail
          revert hT hb3
          generalize (((w2.alloc (.cells #[.int .i64 0] 3)).alloc (.cells #[.int .i64 0] 3)).alloc (.cells #[.int .i64 0] 3)) = W3
          intro hT hb3
          have H3 := Lib.hid (And.intro hT hb3)
          clear hT hb3 H2 hbA
          go_loopw [8, 5, 6, 7] (fun i x5 x6 x7 wr => ∃ (k : Nat) (es : List En) (fr hw : List Int) (s5 s6 s7 : Option Addr) (c5 c6 c7 f : Nat), k + f = N ∧ i = .int .i64 k ∧ x5 = .slice s5 es.length c5 ∧ x6 = .slice s6 es.length c6 ∧ x7 = .slice s7 es.length c7 ∧ TriO wr (A + 3) es.length es.length es.length x5 x6 x7 (codes es) fr hw ∧ FH es fr hw ∧ goodD NA NB es ∧ outD a b M f k es = R ∧ Below (A + 3) W0 wr) (fun i _ _ _ _ => N - (intOf i).toNat)
          case atStart => exact ⟨0, [((0, 0), [])], [0], [0], _, _, _, _, _, _, N, by omega, rfl, rfl, rfl, rfl, H3.out.1, FH.start _, HH.out.2.2.2.2.2.2.1, HH.out.2.2.2.2.2.1.symm, H3.out.2⟩
          case round =>
            obtain ⟨k, es, fr, hw, s5, s6, s7, c5, c6, c7, f, hkf, rfl, rfl, rfl, rfl, hT, hF, hgd, hrr, hbl⟩ := hrel
            have hlen := goodD_len hgd
            rw [← HH.out.2.2.2.2.1] at hlen
            by_cases hlt : k < es.length
            · obtain ⟨f, rfl⟩ : ∃ f', f = f' + 1 := ⟨f - 1, by omega⟩
              obtain ⟨e, hek⟩ := get_of_lt hlt
              obtain ⟨⟨p0, p1⟩, r0, r1⟩ := hgd.bd e (List.mem_of_getElem? hek)
              obtain ⟨p, hp⟩ : ∃ p, p = e.1.1 := ⟨_, rfl⟩
              obtain ⟨q, hq⟩ : ∃ q, q = e.1.2 := ⟨_, rfl⟩
              rw [← hp] at p0 p1
              rw [← hq] at r0 r1
              obtain ⟨cd, hcd⟩ : ∃ cd, cd = codeP e.1 := ⟨_, rfl⟩
              have hcd2 : cd = p + 64 * q := by rw [hcd, hp, hq]; rfl
              have cd0 : 0 ≤ cd := by omega
              have cd1 : cd ≤ 1000 := by omega
              have cm : cd % 64 = p := by omega
              have cq : cd / 64 = q := by omega
              have hck : (codes es)[k]? = some cd := by unfold codes; rw [List.getElem?_map, hek, hcd]; rfl
              obtain ⟨WO, hWO⟩ : ∃ WO, WO = wr := ⟨_, rfl⟩
              subst hWO
              obtain ⟨yb, yo, rfl, hyb, zy⟩ := (own_sl hT.p).int (Below.refl _ _) hck
              have HR := Lib.hid (And.intro hT (And.intro hF (And.intro hgd (And.intro hrr (And.intro hbl (And.intro hek (And.intro hp (And.intro hq hcd))))))))
              clear hT hF hgd hrr hbl hek hp hq hcd hcd2 hck hyb
              go_upto_region 12 with fail
              rw [cm, cq]
              clear zy cm cq
              go_loopw [11, 5, 6, 7] (fun i x5 x6 x7 wr => ∃ (m : Nat) (ys : List En) (fr hw : List Int) (s5 s6 s7 : Option Addr) (c5 c6 c7 : Nat), m ≤ M ∧ i = .int .i64 m ∧ x5 = .slice s5 ys.length c5 ∧ x6 = .slice s6 ys.length c6 ∧ x7 = .slice s7 ys.length c7 ∧ TriO wr (A + 3) ys.length ys.length ys.length x5 x6 x7 (codes ys) fr hw ∧ FH ys fr hw ∧ ys = innD a b e es m ∧ (∀ y : Nat, y < m → hitD a b e.1 (y : Int) = false) ∧ Below (A + 3) W0 wr) (fun i _ _ _ _ => M - (intOf i).toNat)
              case atStart => exact ⟨0, es, fr, hw, _, _, _, _, _, _, Nat.zero_le _, rfl, rfl, rfl, rfl, HR.out.1, HR.out.2.1, rfl, fun y hy => by omega, HR.out.2.2.2.2.1⟩
              case round =>
                obtain ⟨m, ys, fr, hw, s5, s6, s7, c5, c6, c7, hm, rfl, rfl, rfl, rfl, hT, hF, hys, hnh, hbl⟩ := hrel
                have hgy : goodD NA NB ys := by rw [hys, HH.out.2.2.1, HH.out.2.2.2.1]; exact goodD_inn (by rw [← HH.out.2.2.1, ← HH.out.2.2.2.1]; exact HR.out.2.2.1) m
                have hly := goodD_len hgy
                rw [← HH.out.2.2.2.2.1] at hly
                have hyk : ys[k]? = some e := by rw [hys]; exact innD_get HR.out.2.2.2.2.2.1 m
                have hky : k < ys.length := (List.getElem?_eq_some_iff.1 hyk).1
                have hA3 := (HB.out _ hbl).2.2.2.2.2.2
                have ca := (blk_all (HB.out _ hbl).1).1
                have cb := (blk_all (HB.out _ hbl).2.1).1
                by_cases hlm : m < M
                · obtain ⟨h, hh⟩ : ∃ h, h = hitD a b e.1 (m : Int) := ⟨_, rfl⟩
                  have hdec : decide (a.outs.map (litB (cycV a p m)) = b.outs.map (litB (cycV b q m))) = !h := by
                    rw [hh, HR.out.2.2.2.2.2.2.1, HR.out.2.2.2.2.2.2.2.1]
                    have := hitD_iff HH.out.2.2.2.2.2.2.2.1 e.1 (m : Int)
                    cases hx : hitD a b e.1 (m : Int)
                    · rw [decide_eq_true (this.1 hx)]; rfl
                    · rw [decide_eq_false (fun e2 => by rw [this.2 e2] at hx; cases hx)]; rfl
                  have HI := Lib.hid (And.intro hT (And.intro hF (And.intro hys (And.intro hnh (And.intro hbl (And.intro hgy (And.intro hyk (And.intro hh hdec))))))))
                  clear hT hF hys hnh hbl hgy hyk hh hdec
                  go_upto_region 14 with fail
                  have hw1 := (Below.refl wr.heap.size wr).drew
                  revert hw1
                  have hS0 := And.intro ca cb
                  clear ca cb
                  refine fun hw1 => wp_region_T (fun w' => (∀ o, w'.cell? ⟨A, o, none⟩ = #[.int .i64 ni, .slice sn a.next.length cn, .slice sg a.gates.length cg, .slice so a.outs.length co][o]?) ∧ ∀ o, w'.cell? ⟨A + 1, o, none⟩ = #[.int .i64 ni, .slice tn b.next.length dn, .slice tg b.gates.length dg, .slice to_ a.outs.length do_][o]?) (.q 0 (.q 1 (.q 2 (.q 4 (.q 5 (.q 6 (.e 3 (.e 7 (.e 8 (.q 9 .nil)))))))))) (by kernel_rfl) (by kernel_rfl) (by kernel_rfl) hS0 ?_
                  clear hS0
                  have HQ := Lib.hid hw1
                  clear hw1
                  repeat (first | (refine ordt_s (o := ?_) ?_ ?_ ?_; rotate_left 1; (focus ((simp only [List.getElem?_toArray, List.getElem?_cons_succ, List.getElem?_cons_zero]) <;> rfl)); (focus rfl); simp only [Act.put, List.setIfInBounds_toArray, List.set_cons_zero, List.set_cons_succ]) | (refine ordt_q (o := ?_) (v := ?_) ?_ ?_ ?_ ?_; rotate_left 2; (focus ((simp only [List.getElem?_toArray, List.getElem?_cons_succ, List.getElem?_cons_zero]) <;> rfl)); (focus rfl); (focus (intro w' hS; (try dsimp only at hS); go_split_ands; go_simp; (try (with_reducible rfl)))); simp only [Act.put, List.setIfInBounds_toArray, List.set_cons_zero, List.set_cons_succ]))
                  refine ordt_e ?_
                  (refine op_e (o := ?_) ?_ ?_ (fun K hK => ?_); rotate_left 1; (focus ((simp only [List.getElem?_toArray, List.getElem?_cons_succ, List.getElem?_cons_zero]) <;> rfl)); (focus rfl); go_simp)
                  with_reducible refine (l16Outs_any _ a p m _ (HB.out _ (HI.out.2.2.2.2.1.trans (HQ.out.mono hA3))).2.2.1 HH.out.1 p0 (by omega) (by omega) (by omega)).mono ?_
                  rintro e2 wa ⟨sa, xa, rfl, ha, hqa⟩
                  have hba : Below wr.heap.size wr wa := HQ.out.trans hqa
                  refine hK.out _ _ ⟨(blk_all (HB.out _ (HI.out.2.2.2.2.1.trans (hba.mono hA3))).1).1, (blk_all (HB.out _ (HI.out.2.2.2.2.1.trans (hba.mono hA3))).2.1).1⟩ ?_
                  clear hK K hqa
                  have HA := Lib.hid (And.intro ha hba)
                  clear ha hba
                  (try simp only [Act.put, List.setIfInBounds_toArray, List.set_cons_zero, List.set_cons_succ])
                  repeat (first | (refine ordt_s (o := ?_) ?_ ?_ ?_; rotate_left 1; (focus ((simp only [List.getElem?_toArray, List.getElem?_cons_succ, List.getElem?_cons_zero]) <;> rfl)); (focus rfl); simp only [Act.put, List.setIfInBounds_toArray, List.set_cons_zero, List.set_cons_succ]) | (refine ordt_q (o := ?_) (v := ?_) ?_ ?_ ?_ ?_; rotate_left 2; (focus ((simp only [List.getElem?_toArray, List.getElem?_cons_succ, List.getElem?_cons_zero]) <;> rfl)); (focus rfl); (focus (intro w' hS; (try dsimp only at hS); go_split_ands; go_simp; (try (with_reducible rfl)))); simp only [Act.put, List.setIfInBounds_toArray, List.set_cons_zero, List.set_cons_succ]))
                  refine ordt_e ?_
                  (refine op_e (o := ?_) ?_ ?_ (fun K hK => ?_); rotate_left 1; (focus ((simp only [List.getElem?_toArray, List.getElem?_cons_succ, List.getElem?_cons_zero]) <;> rfl)); (focus rfl); go_simp)
                  with_reducible refine (l16Outs_any _ b q m _ (HB.out _ (HI.out.2.2.2.2.1.trans (HA.out.2.mono hA3))).2.2.2.1 HH.out.2.1 r0 (by omega) (by omega) (by omega)).mono ?_
                  rintro e2 wb ⟨sb, xb, rfl, hb, hqb⟩
                  rw [← HH.out.2.2.2.2.2.2.2.1]
                  have hbb : Below wr.heap.size wr wb := HA.out.2.trans (hqb.mono HA.out.2.size)
                  refine hK.out _ _ ⟨(blk_all (HB.out _ (HI.out.2.2.2.2.1.trans (hbb.mono hA3))).1).1, (blk_all (HB.out _ (HI.out.2.2.2.2.1.trans (hbb.mono hA3))).2.1).1⟩ ?_
                  clear hK K
                  have HBb := Lib.hid (And.intro (HA.out.1.mono hqb) (And.intro hb hbb))
                  clear hb hbb hqb
                  (try simp only [Act.put, List.setIfInBounds_toArray, List.set_cons_zero, List.set_cons_succ])
                  repeat (first | (refine ordt_s (o := ?_) ?_ ?_ ?_; rotate_left 1; (focus ((simp only [List.getElem?_toArray, List.getElem?_cons_succ, List.getElem?_cons_zero]) <;> rfl)); (focus rfl); simp only [Act.put, List.setIfInBounds_toArray, List.set_cons_zero, List.set_cons_succ]) | (refine ordt_q (o := ?_) (v := ?_) ?_ ?_ ?_ ?_; rotate_left 2; (focus ((simp only [List.getElem?_toArray, List.getElem?_cons_succ, List.getElem?_cons_zero]) <;> rfl)); (focus rfl); (focus (intro w' hS; (try dsimp only at hS); go_split_ands; go_simp; (try (with_reducible rfl)))); simp only [Act.put, List.setIfInBounds_toArray, List.set_cons_zero, List.set_cons_succ]))
                  refine ordt_e ?_
                  (refine op_e (o := ?_) ?_ ?_ (fun K hK => ?_); rotate_left 1; (focus ((simp only [List.getElem?_toArray, List.getElem?_cons_succ, List.getElem?_cons_zero]) <;> rfl)); (focus rfl); go_simp)
                  with_reducible refine (l4Same_any _ _ _ _ a.outs.length _ _ _ HBb.out.1 HBb.out.2.1 (by simp) (by simp; exact HH.out.2.2.2.2.2.2.2.1.symm) (by omega)).mono ?_
                  rintro e2 wc ⟨rfl, hqc⟩
                  rw [HI.out.2.2.2.2.2.2.2.2]
                  have hbc : Below wr.heap.size wr wc := HBb.out.2.2.trans (hqc.below _)
                  refine hK.out _ _ ⟨(blk_all (HB.out _ (HI.out.2.2.2.2.1.trans (hbc.mono hA3))).1).1, (blk_all (HB.out _ (HI.out.2.2.2.2.1.trans (hbc.mono hA3))).2.1).1⟩ ?_
                  clear hK K hqc
                  have hbW := HI.out.2.2.2.2.1.trans (hbc.mono hA3)
                  have HC := Lib.hid (And.intro (HI.out.1.below hbc) hbW)
                  have ca := (blk_all (HB.out _ hbW).1).1
                  have cb := (blk_all (HB.out _ hbW).2.1).1
                  clear hbc HA HBb HQ hbW
                  (try simp only [Act.put, List.setIfInBounds_toArray, List.set_cons_zero, List.set_cons_succ])
                  repeat (first | (refine ordt_s (o := ?_) ?_ ?_ ?_; rotate_left 1; (focus ((simp only [List.getElem?_toArray, List.getElem?_cons_succ, List.getElem?_cons_zero]) <;> rfl)); (focus rfl); simp only [Act.put, List.setIfInBounds_toArray, List.set_cons_zero, List.set_cons_succ]) | (refine ordt_q (o := ?_) (v := ?_) ?_ ?_ ?_ ?_; rotate_left 2; (focus ((simp only [List.getElem?_toArray, List.getElem?_cons_succ, List.getElem?_cons_zero]) <;> rfl)); (focus rfl); (focus (intro w' hS; (try dsimp only at hS); go_split_ands; go_simp; (try (with_reducible rfl)))); simp only [Act.put, List.setIfInBounds_toArray, List.set_cons_zero, List.set_cons_succ]))
                  refine ordt_nil ?_
                  cases h
                  · obtain ⟨na, hna⟩ : ∃ na, na = nextN a p m := ⟨_, rfl⟩
                    obtain ⟨nb, hnb⟩ : ∃ nb, nb = nextN b q m := ⟨_, rfl⟩
                    have hst : stpD a b e.1 (m : Int) = (na, nb) := by unfold stpD; rw [← HR.out.2.2.2.2.2.2.1, ← HR.out.2.2.2.2.2.2.2.1, hna, hnb]
                    have hbd := stpD_bd a b e.1 (m : Int)
                    rw [hst, ← HH.out.2.2.1, ← HH.out.2.2.2.1] at hbd
                    obtain ⟨⟨a0, a1⟩, b0, b1⟩ := hbd
                    simp only at a0 a1 b0 b1
                    obtain ⟨z1, hz1⟩ : ∃ z1, z1 = 64 * nb := ⟨_, rfl⟩
                    obtain ⟨n, hn⟩ : ∃ n, n = na + z1 := ⟨_, rfl⟩
                    have hw1 : IntKind.i64.wrap (64 * nb) = z1 := by rw [hz1]; exact IntWalk.i64_in _ ⟨by omega, by omega⟩
                    have hw2 : IntKind.i64.wrap (na + z1) = n := by rw [hn]; exact IntWalk.i64_in _ ⟨by omega, by omega⟩
                    have hnc : n = codeP (na, nb) := by rw [hn, hz1]; rfl
                    have hn0 : 0 ≤ n := by omega
                    have hn1 : n ≤ 1000 := by omega
                    have HN := Lib.hid (And.intro hna (And.intro hnb (And.intro hst (And.intro hnc (And.intro a1 b1)))))
                    clear hna hnb hst hz1 hn hnc
                    go_upto_region 16 with fail
                    have hS0 := And.intro ca cb
                    clear ca cb
                    have hw3 := (Below.refl wc.heap.size wc).drew
                    have HQ := Lib.hid hw3
                    clear hw3
                    have hA4 := (HB.out _ HC.out.2).2.2.2.2.2.2
                    refine wp_region_T (fun w' => (∀ o, w'.cell? ⟨A, o, none⟩ = #[.int .i64 ni, .slice sn a.next.length cn, .slice sg a.gates.length cg, .slice so a.outs.length co][o]?) ∧ ∀ o, w'.cell? ⟨A + 1, o, none⟩ = #[.int .i64 ni, .slice tn b.next.length dn, .slice tg b.gates.length dg, .slice to_ a.outs.length do_][o]?) (.q 0 (.q 1 (.q 2 (.q 4 (.q 5 (.q 6 (.e 3 (.e 7 (.q 8 (.q 9 (.q 10 .nil))))))))))) (by kernel_rfl) (by kernel_rfl) (by kernel_rfl) hS0 ?_
                    clear hS0
                    repeat (first | (refine ordt_s (o := ?_) ?_ ?_ ?_; rotate_left 1; (focus ((simp only [List.getElem?_toArray, List.getElem?_cons_succ, List.getElem?_cons_zero]) <;> rfl)); (focus rfl); simp only [Act.put, List.setIfInBounds_toArray, List.set_cons_zero, List.set_cons_succ]) | (refine ordt_q (o := ?_) (v := ?_) ?_ ?_ ?_ ?_; rotate_left 2; (focus ((simp only [List.getElem?_toArray, List.getElem?_cons_succ, List.getElem?_cons_zero]) <;> rfl)); (focus rfl); (focus (intro w' hS; (try dsimp only at hS); go_split_ands; go_simp; (try (with_reducible rfl)))); simp only [Act.put, List.setIfInBounds_toArray, List.set_cons_zero, List.set_cons_succ]))
                    refine ordt_e ?_
                    (refine op_e (o := ?_) ?_ ?_ (fun K hK => ?_); rotate_left 1; (focus ((simp only [List.getElem?_toArray, List.getElem?_cons_succ, List.getElem?_cons_zero]) <;> rfl)); (focus rfl); go_simp)
                    with_reducible refine (l16Next_any _ a p m _ (HB.out _ (HC.out.2.trans (HQ.out.mono hA4))).2.2.1 HH.out.1 p0 (by omega) (by omega) (by omega)).mono ?_
                    rintro e2 wd ⟨rfl, hqd⟩
                    rw [← HN.out.1]
                    have hbd : Below wc.heap.size wc wd := HQ.out.trans hqd
                    refine hK.out _ _ ⟨(blk_all (HB.out _ (HC.out.2.trans (hbd.mono hA4))).1).1, (blk_all (HB.out _ (HC.out.2.trans (hbd.mono hA4))).2.1).1⟩ ?_
                    clear hK K hqd
                    have HD := Lib.hid hbd
                    clear hbd
                    (try simp only [Act.put, List.setIfInBounds_toArray, List.set_cons_zero, List.set_cons_succ])
                    repeat (first | (refine ordt_s (o := ?_) ?_ ?_ ?_; rotate_left 1; (focus ((simp only [List.getElem?_toArray, List.getElem?_cons_succ, List.getElem?_cons_zero]) <;> rfl)); (focus rfl); simp only [Act.put, List.setIfInBounds_toArray, List.set_cons_zero, List.set_cons_succ]) | (refine ordt_q (o := ?_) (v := ?_) ?_ ?_ ?_ ?_; rotate_left 2; (focus ((simp only [List.getElem?_toArray, List.getElem?_cons_succ, List.getElem?_cons_zero]) <;> rfl)); (focus rfl); (focus (intro w' hS; (try dsimp only at hS); go_split_ands; go_simp; (try (with_reducible rfl)))); simp only [Act.put, List.setIfInBounds_toArray, List.set_cons_zero, List.set_cons_succ]))
                    refine ordt_e ?_
                    (refine op_e (o := ?_) ?_ ?_ (fun K hK => ?_); rotate_left 1; (focus ((simp only [List.getElem?_toArray, List.getElem?_cons_succ, List.getElem?_cons_zero]) <;> rfl)); (focus rfl); go_simp)
                    with_reducible refine (l16Next_any _ b q m _ (HB.out _ (HC.out.2.trans (HD.out.mono hA4))).2.2.2.1 HH.out.2.1 r0 (by omega) (by omega) (by omega)).mono ?_
                    rintro e2 wf ⟨rfl, hqf⟩
                    rw [← HN.out.2.1]
                    have hbf : Below wc.heap.size wc wf := HD.out.trans (hqf.mono HD.out.size)
                    refine hK.out _ _ ⟨(blk_all (HB.out _ (HC.out.2.trans (hbf.mono hA4))).1).1, (blk_all (HB.out _ (HC.out.2.trans (hbf.mono hA4))).2.1).1⟩ ?_
                    clear hK K hqf
                    have HE := Lib.hid (And.intro (HC.out.1.below hbf) (HC.out.2.trans (hbf.mono hA4)))
                    have hwf := (HB.out _ HE.out.2).2.2.2.2.2.2
                    clear hbf HD HQ
                    (try simp only [Act.put, List.setIfInBounds_toArray, List.set_cons_zero, List.set_cons_succ])
                    repeat (first | (refine ordt_s (o := ?_) ?_ ?_ ?_; rotate_left 1; (focus ((simp only [List.getElem?_toArray, List.getElem?_cons_succ, List.getElem?_cons_zero]) <;> rfl)); (focus rfl); simp only [Act.put, List.setIfInBounds_toArray, List.set_cons_zero, List.set_cons_succ]) | (refine ordt_q (o := ?_) (v := ?_) ?_ ?_ ?_ ?_; rotate_left 2; (focus ((simp only [List.getElem?_toArray, List.getElem?_cons_succ, List.getElem?_cons_zero]) <;> rfl)); (focus rfl); (focus (intro w' hS; (try dsimp only at hS); go_split_ands; go_simp; (try (with_reducible rfl)))); simp only [Act.put, List.setIfInBounds_toArray, List.set_cons_zero, List.set_cons_succ]))
                    refine ordt_nil ?_
                    clear hw1 hw2
                    have hcm : n ∈ codes ys ↔ (na, nb) ∈ ys.map (·.1) := by
                      rw [HN.out.2.2.2.1]
                      refine codes_mem ⟨a0, by have := HN.out.2.2.2.2.1; simp only at this ⊢; omega⟩ (fun e he => ?_)
                      have := HI.out.2.2.2.2.2.1.bd e he
                      omega
                    have hinn : innD a b e es (m + 1) = addD ys (na, nb) (e.2 ++ [(m : Int)]) := by
                      rw [innD_succ, ← HI.out.2.2.1, HN.out.2.2.1]
                    have hnh2 : ∀ y : Nat, y < m + 1 → hitD a b e.1 (y : Int) = false := fun y hy => by
                      by_cases hym : y = m
                      · subst hym; exact HI.out.2.2.2.2.2.2.2.1.symm
                      · exact HI.out.2.2.2.1 y (by omega)
                    have hcl := codes_length ys
                    have hhas : Hid (Calls Try.prog 20 #[.slice s5 ys.length c5, .int .i64 n] wf fun e w' => e = .returned (.bool (decide (n ∈ codes ys))) ∧ wf = w') := by
                      have h9 := l16Has_any s5 c5 (codes ys) n wf (own_sl HE.out.1.p) (by rw [hcl]; omega)
                      rw [hcl] at h9
                      exact h9
                    by_cases hmem : n ∈ codes ys
                    · have hd : Hid (decide (n ∈ codes ys) = true) := decide_eq_true hmem
                      have HM := Lib.hid (And.intro (hcm.1 hmem) (And.intro hinn (And.intro hnh2 hcl)))
                      clear hmem hcm hinn hnh2 hcl
                      go_wp2_with (go_at_call 20; ((with_reducible refine hhas.out.mono ?_); rintro e w5 ⟨rfl, rfl⟩; rw [hd.out]))
                      go_roundw
                      case rel => exact ⟨m + 1, ys, fr, hw, _, _, _, _, _, _, by omega, by go_num, rfl, rfl, rfl, HE.out.1, HI.out.2.1, by rw [HM.out.2.1, addD_in HM.out.1], HM.out.2.2.1, HE.out.2⟩
                      case measure => simp [intOf]; omega
                    · have hd : Hid (decide (n ∈ codes ys) = false) := decide_eq_false hmem
                      have HM := Lib.hid (And.intro (fun h => hmem (hcm.2 h)) (And.intro hinn (And.intro hnh2 hcl)))
                      clear hmem hcm hinn hnh2 hcl
                      go_upto_region 18 with (go_at_call 20; ((with_reducible refine hhas.out.mono ?_); rintro e w5 ⟨rfl, rfl⟩; rw [hd.out]))
                      go_upto_region 19 with (at_builtin; refine wpl_app rfl _ _ rfl elem_int (own_below HE.out.1.p ((Below.refl _ _).alloc (Nat.le_refl _) _)) rfl rfl rfl (Sl.new _ _ _) (by simp [Value.oneCell']) (ys.length + 1) rfl (ints (codes ys ++ [n])) (by rw [← ints_append]; rfl) (by unfold maxLen; omega) (by omega) (by simp; omega) ?_; intro s9 c9 w9 h9 hb9 hg9 ho9; have HP := Lib.hid (And.intro (((HE.out.1.below ((Below.refl _ _).alloc (Nat.le_refl _) (.cells #[.int .i64 n] 3))).push hg9 h9 ho9).rot) ((HE.out.2.alloc hwf _).trans hb9)); have hw9 : A + 3 ≤ w9.heap.size := (HB.out _ HP.out.2).2.2.2.2.2.2; clear h9 hb9 hg9 ho9)
                      go_upto_region 20 with (at_builtin; refine wpl_app rfl _ _ rfl elem_int (own_below HP.out.1.p ((Below.refl _ _).alloc (Nat.le_refl _) _)) rfl rfl rfl (Sl.new _ _ _) (by simp [Value.oneCell']) (ys.length + 1) rfl (ints (fr ++ [(k : Int)])) (by rw [← ints_append]; rfl) (by unfold maxLen; omega) (by omega) (by simp; omega) ?_; intro s10 c10 w10 h9 hb9 hg9 ho9; have HP2 := Lib.hid (And.intro (((HP.out.1.below ((Below.refl _ _).alloc (Nat.le_refl _) (.cells #[.int .i64 k] 3))).push hg9 h9 ho9).rot) ((HP.out.2.alloc hw9 _).trans hb9)); have hw10 : A + 3 ≤ w10.heap.size := (HB.out _ HP2.out.2).2.2.2.2.2.2; clear h9 hb9 hg9 ho9)
                      go_wp2_with (at_builtin; refine wpl_app rfl _ _ rfl elem_int (own_below HP2.out.1.p ((Below.refl _ _).alloc (Nat.le_refl _) _)) rfl rfl rfl (Sl.new _ _ _) (by simp [Value.oneCell']) (ys.length + 1) rfl (ints (hw ++ [(m : Int)])) (by rw [← ints_append]; rfl) (by unfold maxLen; omega) (by omega) (by simp; omega) ?_; intro s11 c11 w11 h9 hb9 hg9 ho9; have HP3 := Lib.hid (And.intro (((HP2.out.1.below ((Below.refl _ _).alloc (Nat.le_refl _) (.cells #[.int .i64 m] 3))).push hg9 h9 ho9).rot) ((HP2.out.2.alloc hw10 _).trans hb9)); clear h9 hb9 hg9 ho9)
                      have el : (ys ++ [((na, nb), e.2 ++ [(m : Int)])]).length = ys.length + 1 := by simp
                      have ec : codes (ys ++ [((na, nb), e.2 ++ [(m : Int)])]) = codes ys ++ [n] := by unfold codes; rw [List.map_append, HN.out.2.2.2.1]; rfl
                      have HEL := Lib.hid (And.intro el ec)
                      clear el ec
                      go_roundw
                      case rel => exact ⟨m + 1, ys ++ [((na, nb), e.2 ++ [(m : Int)])], fr ++ [(k : Int)], hw ++ [(m : Int)], s9, s10, s11, c9, c10, c11, by omega, by go_num, by rw [HEL.out.1], by rw [HEL.out.1], by rw [HEL.out.1], by rw [HEL.out.1, HEL.out.2]; exact HP3.out.1, HI.out.2.1.add HI.out.2.2.2.2.2.2.1 (na, nb) (by omega) (by omega), by rw [HM.out.2.1, addD_out HM.out.1], HM.out.2.2.1, HP3.out.2⟩
                      case measure => simp [intOf]; omega
                  · have hRf : R = some (e.2 ++ [(m : Int)]) := by
                      rw [← HR.out.2.2.2.1]
                      exact outD_hit HR.out.2.2.2.2.2.1 hlm HI.out.2.2.2.2.2.2.2.1.symm HI.out.2.2.2.1
                    have hA4 := (HB.out _ HC.out.2).2.2.2.2.2.2
                    have hrows : Hid (Calls Try.prog 18 #[.agg #[.int .i64 ni, .slice sn a.next.length cn, .slice sg a.gates.length cg, .slice so a.outs.length co], .slice s6 ys.length c6, .slice s7 ys.length c7, .int .i64 k, .int .i64 m] wc fun e' w' => ∃ s cap, e' = .returned (.slice s (e.2.length + 1) cap) ∧ SlBA w' wc.heap.size s (rowsX ni (e.2 ++ [(m : Int)])) ∧ Below wc.heap.size wc w') := by
                      exact l16Rows_any ni _ _ _ s6 s7 c6 c7 ys fr hw k e m wc n4 HI.out.2.1 (own_sl HC.out.1.f) (own_sl HC.out.1.h) HI.out.2.2.2.2.2.2.1 (by omega) (by omega) (by omega)
                    have HRF := Lib.hid hRf
                    clear hRf
                    go_wp2_with (go_at_call 18; (with_reducible refine hrows.out.mono ?_); rintro e9 w9 ⟨s9, c9, rfl, h9, hq9⟩; have H9 := Lib.hid (And.intro h9 (HC.out.2.trans (hq9.mono hA4))); obtain ⟨rc, rf⟩ := blk_all (HB.out _ (HC.out.2.trans (hq9.mono hA4))).2.2.2.2.2.1; clear h9 hq9 ca cb)
                    clear rc rf
                    have hZ : ((w9.setCell ⟨A + 2, 0, none⟩ (.bool true)).setCell ⟨A + 2, 1, none⟩ (.slice s9 (e.2.length + 1) c9)).heap[A + 2]? = some (.cells #[.bool true, .slice s9 (e.2.length + 1) c9] 29 (0, 0)) := by
                      simpa using blk_set (o := 1) (v := .slice s9 (e.2.length + 1) c9) (blk_set (o := 0) (v := .bool true) (HB.out _ H9.out.2).2.2.2.2.2.1)
                    have hA2 := HW.out.2.1
                    have hbz := ((HB.out _ H9.out.2).2.2.2.2.1.setCell (p := ⟨A + 2, 0, none⟩) (by simp; omega) (.bool true)).setCell (p := ⟨A + 2, 1, none⟩) (by simp; omega) (.slice s9 (e.2.length + 1) c9)
                    have hsb := (SlBA.setlow (r := A + 2) (o := 1) (v := .slice s9 (e.2.length + 1) c9) (SlBA.setlow (r := A + 2) (o := 0) (v := .bool true) H9.out.1 (by omega)) (by omega))
                    revert hZ hbz hsb
                    generalize ((w9.setCell ⟨A + 2, 0, none⟩ (.bool true)).setCell ⟨A + 2, 1, none⟩ (.slice s9 (e.2.length + 1) c9)) = WZ
                    intro hZ hbz hsb
                    have cr := (blk_all hZ).1
                    exact bodyPost_ret (v := .agg #[.bool true, .slice s9 (e.2.length + 1) c9]) (by simp [results, Try.results5, go_sem, cr]) rfl ⟨s9, c9, by rw [HRF.out]; simp [rowsX_length], by rw [HRF.out]; exact hsb.low (by have := HW.out.2.1; omega), hbz⟩
                · obtain rfl : m = M := by omega
                  have HI := Lib.hid (And.intro hT (And.intro hF (And.intro hys (And.intro hnh (And.intro hbl hgy)))))
                  clear hT hF hys hnh hbl hgy hyk
                  go_wp2_with fail
                  go_roundw
                  case rel => exact ⟨k + 1, ys, fr, hw, _, _, _, _, _, _, f, by omega, by go_num, rfl, rfl, rfl, HI.out.1, HI.out.2.1, HI.out.2.2.2.2.2, by rw [HI.out.2.2.1, ← HR.out.2.2.2.1, outD_step HR.out.2.2.2.2.2.1 HI.out.2.2.2.1], HI.out.2.2.2.2.1⟩
                  case measure => simp [intOf]; omega
            · rw [outD_end hlt] at hrr
              subst hrr
              have HR := Lib.hid hbl
              clear hT hF hgd hbl
              obtain ⟨rc, rf⟩ := blk_all (HB.out _ HR.out).2.2.2.2.2.1
              go_wp2_with fail
              clear rc rf
              have hZ : ((wr.setCell ⟨A + 2, 0, none⟩ (.bool false)).setCell ⟨A + 2, 1, none⟩ (.slice none 0 0)).heap[A + 2]? = some (.cells #[.bool false, .slice none 0 0] 29 (0, 0)) := by
                simpa using blk_set (o := 1) (v := .slice none 0 0) (blk_set (o := 0) (v := .bool false) (HB.out _ HR.out).2.2.2.2.2.1)
              have hA2 := HW.out.2.1
              have hbz := ((HB.out _ HR.out).2.2.2.2.1.setCell (p := ⟨A + 2, 0, none⟩) (by simp; omega) (.bool false)).setCell (p := ⟨A + 2, 1, none⟩) (by simp; omega) (.slice none 0 0)
              revert hZ hbz
              generalize ((wr.setCell ⟨A + 2, 0, none⟩ (.bool false)).setCell ⟨A + 2, 1, none⟩ (.slice none 0 0)) = WZ
              intro hZ hbz
              have cr := (blk_all hZ).1
              exact bodyPost_ret (v := .agg #[.bool false, .slice none 0 0]) (by simp [results, Try.results5, go_sem, cr]) rfl ⟨none, 0, rfl, SlBA.nil' _ _, hbz⟩
        · have hs : cmpB a b = false := by simp [cmpB, e3]
          have HE := Lib.hid (disR_no hs)
          have q3 : ¬ ((a.outs.length : Int) = (b.outs.length : Int)) := by omega
          rw [← e1] at HW HB ⊢
          have HV := Lib.hid (And.intro h1 h2)
          clear h1 h2 hs e1 e3
          go_enter Try.func5, Try.ntmps5
          go_upto_region 1 with fail
          rw [← HW.out.1]
          try rw [← HW.out.2.1]
          have ca := (blk_all (HB.out _ (Below.refl _ _)).1).1
          have cb := (blk_all (HB.out _ (Below.refl _ _)).2.1).1
          go_wp2_with (first | (go_at_call 15; ((with_reducible refine (CircuitValid_s _ a _ (HB.out _ (Below.refl _ _)).2.2.1).mono ?_); rintro e w1 ⟨rfl, hq⟩; rw [HV.out.1]; have H1 : Hid (Below (A + 3) W0 w1) := (by have h := HW.out.2.2; exact hq.mono (by omega)); clear hq ca cb; have ca := (blk_all (HB.out _ H1.out).1).1; have cb := (blk_all (HB.out _ H1.out).2.1).1)) | (go_at_call 15; ((with_reducible refine (CircuitValid_s _ b _ (HB.out _ H1.out).2.2.2.1).mono ?_); rintro e w2 ⟨rfl, hq⟩; rw [HV.out.2]; have H2 : Hid (Below (A + 3) W0 w2) := H1.out.trans (hq.mono (HB.out _ H1.out).2.2.2.2.2.2); clear hq ca cb; have ca := (blk_all (HB.out _ H2.out).1).1; have cb := (blk_all (HB.out _ H2.out).2.1).1; obtain ⟨rc, rf⟩ := blk_all (HB.out _ H2.out).2.2.2.2.2.1)))
          clear rc rf
          have hZ : ((w2.setCell ⟨A + 2, 0, none⟩ (.bool false)).setCell ⟨A + 2, 1, none⟩ (.slice none 0 0)).heap[A + 2]? = some (.cells #[.bool false, .slice none 0 0] 29 (0, 0)) := by
            simpa using blk_set (o := 1) (v := .slice none 0 0) (blk_set (o := 0) (v := .bool false) (HB.out _ H2.out).2.2.2.2.2.1)
          have hA2 := HW.out.2.1
          have hbz := ((HB.out _ H2.out).2.2.2.2.1.setCell (p := ⟨A + 2, 0, none⟩) (by simp; omega) (.bool false)).setCell (p := ⟨A + 2, 1, none⟩) (by simp; omega) (.slice none 0 0)
          revert hZ hbz
          generalize ((w2.setCell ⟨A + 2, 0, none⟩ (.bool false)).setCell ⟨A + 2, 1, none⟩ (.slice none 0 0)) = WZ
          intro hZ hbz
          have cr := (blk_all hZ).1
          exact bodyPost_ret (v := .agg #[.bool false, .slice none 0 0]) (by simp [results, Try.results5, go_sem, cr]) rfl (by rw [HE.out]; exact ⟨none, 0, rfl, SlBA.nil' _ _, hbz⟩)
      · have hs : cmpB a b = false := by simp [cmpB, e1]
        have HE := Lib.hid (disR_no hs)
        have HV := Lib.hid (And.intro h1 h2)
        clear h1 h2 hs
        go_enter Try.func5, Try.ntmps5
        go_upto_region 1 with fail
        rw [← HW.out.1]
        try rw [← HW.out.2.1]
        have ca := (blk_all (HB.out _ (Below.refl _ _)).1).1
        have cb := (blk_all (HB.out _ (Below.refl _ _)).2.1).1
        go_wp2_with (first | (go_at_call 15; ((with_reducible refine (CircuitValid_s _ a _ (HB.out _ (Below.refl _ _)).2.2.1).mono ?_); rintro e w1 ⟨rfl, hq⟩; rw [HV.out.1]; have H1 : Hid (Below (A + 3) W0 w1) := (by have h := HW.out.2.2; exact hq.mono (by omega)); clear hq ca cb; have ca := (blk_all (HB.out _ H1.out).1).1; have cb := (blk_all (HB.out _ H1.out).2.1).1)) | (go_at_call 15; ((with_reducible refine (CircuitValid_s _ b _ (HB.out _ H1.out).2.2.2.1).mono ?_); rintro e w2 ⟨rfl, hq⟩; rw [HV.out.2]; have H2 : Hid (Below (A + 3) W0 w2) := H1.out.trans (hq.mono (HB.out _ H1.out).2.2.2.2.2.2); clear hq ca cb; have ca := (blk_all (HB.out _ H2.out).1).1; have cb := (blk_all (HB.out _ H2.out).2.1).1; obtain ⟨rc, rf⟩ := blk_all (HB.out _ H2.out).2.2.2.2.2.1)))
        clear rc rf
        have hZ : ((w2.setCell ⟨A + 2, 0, none⟩ (.bool false)).setCell ⟨A + 2, 1, none⟩ (.slice none 0 0)).heap[A + 2]? = some (.cells #[.bool false, .slice none 0 0] 29 (0, 0)) := by
          simpa using blk_set (o := 1) (v := .slice none 0 0) (blk_set (o := 0) (v := .bool false) (HB.out _ H2.out).2.2.2.2.2.1)
        have hA2 := HW.out.2.1
        have hbz := ((HB.out _ H2.out).2.2.2.2.1.setCell (p := ⟨A + 2, 0, none⟩) (by simp; omega) (.bool false)).setCell (p := ⟨A + 2, 1, none⟩) (by simp; omega) (.slice none 0 0)
        revert hZ hbz
        generalize ((w2.setCell ⟨A + 2, 0, none⟩ (.bool false)).setCell ⟨A + 2, 1, none⟩ (.slice none 0 0)) = WZ
        intro hZ hbz
        have cr := (blk_all hZ).1
        exact bodyPost_ret (v := .agg #[.bool false, .slice none 0 0]) (by simp [results, Try.results5, go_sem, cr]) rfl (by rw [HE.out]; exact ⟨none, 0, rfl, SlBA.nil' _ _, hbz⟩)

theorem Distinguish_s (u v : Value) (a b : Cir) (w : World) (ha : CirV w u a) (hb : CirV w v b) :
    Calls Try.prog 5 #[u, v] w (DisPost (disR a b) a.inp.toNat w) := by
  refine (Distinguish_sA u v a b w ha hb).mono ?_
  rintro e w' ⟨s, cap, h1, h2, h3⟩
  exact ⟨s, cap, h1, h2.slb, h3⟩

end Go.Proofs.Ytgadinaninkmoaa
