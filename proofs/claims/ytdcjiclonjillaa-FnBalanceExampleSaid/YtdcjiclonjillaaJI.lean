import Derived.Test.YtdcjiclonjillaaJG
import Derived.Test.YtdcjiclonjillaaOS
namespace Go.Proofs.Ytdcjiclonjillaa
set_option linter.unusedVariables false
set_option linter.unusedSimpArgs false
open Go.RowKit

/-! Depth of the program. -/

theorem lvlL_take {F : Nat} {gs : List Gt} {k : Nat} {g : Gt} (h : gs[k]? = some g) : lvlL F (gs.take (k + 1)) = lvlL F (gs.take k) ++ [1 + max ((lvlL F (gs.take k)).getD (g.a / 2).toNat 0) ((lvlL F (gs.take k)).getD (g.b / 2).toNat 0)] := by
  rw [List.take_add_one, h, Option.toList_some, lvlL_snoc]; rfl
theorem fill_set (L : List Int) (n k : Nat) (h : L.length ≤ n) (hk : L.length < n) (v : Int) : (L ++ List.replicate (n - L.length) (0 : Int)).set L.length v = (L ++ [v]) ++ List.replicate (n - (L.length + 1)) 0 := by
  obtain ⟨d, hd⟩ : ∃ d, n - L.length = d + 1 := ⟨n - L.length - 1, by omega⟩
  rw [hd, show n - (L.length + 1) = d by omega, List.replicate_succ, List.set_append_right _ _ (Nat.le_refl _), Nat.sub_self]
  simp
theorem mxL_snoc (L : List Int) (x : Int) : mxL (L ++ [x]) = max (mxL L) x := by simp [mxL]
theorem mxL_take {L : List Int} {k : Nat} {x : Int} (h : L[k]? = some x) : mxL (L.take (k + 1)) = max (mxL (L.take k)) x := by
  rw [List.take_add_one, h, Option.toList_some, mxL_snoc]
theorem mxL_bd {L : List Int} {B : Int} (hB : 0 ≤ B) (h : ∀ x ∈ L, 0 ≤ x ∧ x ≤ B) : 0 ≤ mxL L ∧ mxL L ≤ B := by
  have : ∀ (L : List Int) (a : Int), 0 ≤ a → a ≤ B → (∀ x ∈ L, 0 ≤ x ∧ x ≤ B) → 0 ≤ L.foldl max a ∧ L.foldl max a ≤ B := by
    intro L
    induction L with
    | nil => intro a h0 h1 _; exact ⟨h0, h1⟩
    | cons x L ih => intro a h0 h1 h; have := h x (by simp); exact ih _ (by omega) (by omega) fun y hy => h y (by simp [hy])
  exact this L 0 (Int.le_refl _) hB h

set_option maxRecDepth 100000 in
set_option maxHeartbeats 3200000 in
theorem depth_any (b : Nat) (sn sg so : Option Addr) (cn cg co : Nat) (c : Cir) (w : World) (h : CirAt w b c.inp (.slice sn c.next.length cn) (.slice sg c.gates.length cg) (.slice so c.outs.length co)) (hn : Sl w sn (ints c.next)) (hg : Sl w sg (gcells c.gates)) (ho : Sl w so (ints c.outs)) (hv : c.valid) :
    Calls Try.prog 37 #[.pointer (some ⟨b, 0, none⟩)] w fun e w' => e = .returned (.int .i64 (depC c)) ∧ Below w.heap.size w w' := by
  have HBl : Hid (b < w.heap.size) := World.block_lt_of_cell? w _ h.h0
  obtain ⟨q1, q2, q3, q4, q5⟩ := id hv.lim
  obtain ⟨F, hF⟩ : ∃ F : Nat, 1 + c.inp + (c.next.length : Int) = F := ⟨(1 + c.inp + (c.next.length : Int)).toNat, by omega⟩
  obtain ⟨n, hnn⟩ : ∃ n, n = c.gates.length := ⟨_, rfl⟩
  obtain ⟨V, hV⟩ : ∃ V, V = F + n := ⟨_, rfl⟩
  have hF8 : F ≤ 8 := by omega
  have hn14 : n ≤ 14 := by omega
  have hV22 : V ≤ 22 := by omega
  have eF : c.first.toNat = F := by rw [show c.first = (F : Int) from hF, Int.toNat_natCast]
  have HB : Hid (∀ W, Below w.heap.size w W → CirAt W b c.inp (.slice sn c.next.length cn) (.slice sg n cg) (.slice so c.outs.length co) ∧ Sl W sn (ints c.next) ∧ Sl W sg (gcells c.gates) ∧ Sl W so (ints c.outs)) := fun W hb => by
    rw [hnn]
    exact ⟨⟨(hb.cell (p := ⟨b, 0, none⟩) HBl.out).trans h.h0, (hb.cell (p := ⟨b, 1, none⟩) HBl.out).trans h.h1, (hb.cell (p := ⟨b, 2, none⟩) HBl.out).trans h.h2, (hb.cell (p := ⟨b, 3, none⟩) HBl.out).trans h.h3⟩, hn.mono hb, hg.mono hb, ho.mono hb⟩
  have hVn : 1 + c.inp + (c.next.length : Int) + (n : Int) = (V : Int) := by omega
  have HFF := Lib.hid (And.intro hF (And.intro hV (And.intro hnn (And.intro hVn (And.intro eF hv)))))
  have hmk := fun w => mkInts w V (by omega)
  have hFV : F + n ≤ V := by omega
  have hFV2 : V ≤ F + n := by omega
  clear h hn hg ho hv hF eF q4 hnn hVn hV
  obtain ⟨c0, c1, c2, c3⟩ := (HB.out _ (Below.refl _ _)).1
  go_enter Try.func37, Try.ntmps37
  go_upto_region 2 with (go_at_call 38; refine (vars_any b c.inp sn sg c.next.length cn n cg _ _ (HB.out _ (Below.refl _ _)).1 (by omega) (by omega) (by omega)).mono ?_; rintro e w1 ⟨rfl, hd⟩; rw [HFF.out.2.2.2.1]; have H1 := Lib.hid (hd.below w.heap.size); clear hd c0 c1 c2 c3)
  obtain ⟨G, hG⟩ : ∃ G, G = w1.heap.size := ⟨_, rfl⟩
  have x1 := blk_new w1 (.cells (ints (List.replicate V 0)).toArray 3)
  have x2 := H1.out.alloc H1.out.size (.cells (ints (List.replicate V 0)).toArray 3)
  have x3 : w.heap.size ≤ G := by rw [hG]; exact H1.out.size
  rw [← hG] at x1
  rw [← hG]
  clear hmk hG
  revert x1 x2
  generalize w1.alloc (.cells (ints (List.replicate V 0)).toArray 3) = W2
  intro x1 x2
  have H2 := Lib.hid (And.intro x1 x2)
  obtain ⟨c0, c1, c2, c3⟩ := (HB.out _ x2).1
  clear x1 x2
  go_wp2_with fail
  clear c0 c1 c2 c3
  go_loopw [17] (fun i wr => ∃ k : Nat, k ≤ n ∧ i = .int .i64 k ∧ wr.heap[G]? = some (.cells (ints (lvlL F (c.gates.take k) ++ List.replicate (V - (lvlL F (c.gates.take k)).length) 0)).toArray 3 (0, 0)) ∧ Below w.heap.size w wr) (fun i _ => n - (intOf i).toNat)
  case atStart => exact ⟨0, Nat.zero_le _, rfl, by
    have h := H2.out.1
    have e : lvlL F (c.gates.take 0) ++ List.replicate (V - (lvlL F (c.gates.take 0)).length) 0 = List.replicate V 0 := by
      rw [lvlL_length, List.take_zero]
      show List.replicate F 0 ++ _ = _
      rw [List.replicate_append_replicate]
      congr 1; simp; omega
    rw [e]; exact h, H2.out.2⟩
  case round =>
    obtain ⟨k, hk, rfl, hb, hbl⟩ := hrel
    by_cases hlt : k < n
    · obtain ⟨g, hg⟩ := get_of_lt (l := c.gates) (k := k) (by rw [← HFF.out.2.2.1]; exact hlt)
      obtain ⟨bg, og, rfl, hbw, z1, z2⟩ := (HB.out _ hbl).2.2.1.gate (Below.refl _ _) hg
      obtain ⟨⟨a0, a1⟩, b0, b1⟩ := valid_gate HFF.out.2.2.2.2.2 hg
      rw [show c.first = (F : Int) from HFF.out.1] at a1 b1
      have hll : (lvlL F (c.gates.take k)).length = F + k := by rw [lvlL_length, List.length_take, ← HFF.out.2.2.1, Nat.min_eq_left (by omega)]
      obtain ⟨L, hL⟩ : ∃ L, L = lvlL F (c.gates.take k) := ⟨_, rfl⟩
      have hLb : ∀ x ∈ L, 0 ≤ x ∧ x ≤ 14 := fun x hx => by
        have := lvlL_bd F (c.gates.take k) x (by rw [← hL]; exact hx)
        rw [List.length_take] at this
        have h3 := HFF.out.2.2.1
        omega
      rw [← hL] at hll hb
      obtain ⟨p, hp⟩ : ∃ p : Nat, g.a / 2 = p := ⟨(g.a / 2).toNat, by omega⟩
      obtain ⟨q, hq⟩ : ∃ q : Nat, g.b / 2 = q := ⟨(g.b / 2).toNat, by omega⟩
      have hpF : p < F + k := by omega
      have hqF : q < F + k := by omega
      have hpV : p < V := by omega
      have hqV : q < V := by omega
      obtain ⟨u, hu⟩ := get_of_lt (l := L) (k := p) (by omega)
      obtain ⟨v, hv⟩ := get_of_lt (l := L) (k := q) (by omega)
      obtain ⟨u0, u1⟩ := hLb u (List.mem_of_getElem? hu)
      obtain ⟨v0, v1⟩ := hLb v (List.mem_of_getElem? hv)
      have ta : g.a.tdiv 2 = p := by rw [Int.tdiv_eq_ediv_of_nonneg a0]; exact hp
      have tb : g.b.tdiv 2 = q := by rw [Int.tdiv_eq_ediv_of_nonneg b0]; exact hq
      have wp : IntKind.i64.wrap (p : Int) = p := IntWalk.i64_in _ ⟨by omega, by omega⟩
      have wq : IntKind.i64.wrap (q : Int) = q := IntWalk.i64_in _ ⟨by omega, by omega⟩
      obtain ⟨fk, hfk⟩ : ∃ fk : Nat, fk = F + k := ⟨_, rfl⟩
      have wfk : IntKind.i64.wrap ((F : Int) + (k : Int)) = (fk : Int) := by rw [IntWalk.i64_in _ ⟨by omega, by omega⟩]; omega
      have hfkV : fk < V := by omega
      have hAu : (L ++ List.replicate (V - L.length) 0)[p]? = some u := by rw [List.getElem?_append_left (by omega)]; exact hu
      have hAv : (L ++ List.replicate (V - L.length) 0)[q]? = some v := by rw [List.getElem?_append_left (by omega)]; exact hv
      obtain ⟨mx, hmx⟩ : ∃ mx, mx = max u v := ⟨_, rfl⟩
      have hif : (if u < v then v else u) = mx := by split <;> omega
      obtain ⟨m1, hm1⟩ : ∃ m1, m1 = 1 + mx := ⟨_, rfl⟩
      have wm : IntKind.i64.wrap (1 + mx) = m1 := by rw [IntWalk.i64_in _ ⟨by omega, by omega⟩]; exact hm1.symm
      have em : 1 + mx = m1 := hm1.symm
      obtain ⟨GB, hGB⟩ : ∃ GB, GB = wr.heap.size := ⟨_, rfl⟩
      have hGG : G < GB := by rw [hGB]; exact blk_lt hb
      have k1 := blk_new wr (.cells #[.int .i64 g.a, .int .i64 g.b] 24)
      have k2 := blk_old (o := .cells #[.int .i64 g.a, .int .i64 g.b] 24) hb
      have k3 := hbl.alloc hbl.size (.cells #[.int .i64 g.a, .int .i64 g.b] 24)
      rw [← hGB] at k1
      have HL := Lib.hid (And.intro hg (And.intro hL (And.intro hu (And.intro hv (And.intro hll (And.intro hfk (And.intro hmx hm1)))))))
      clear hb hbl hg hL hLb hu hv hbw a1 b1 hll hp hq hfk hmx hm1
      go_upto_region 5 with fail
      rw [← hGB]
      clear hGB z1 z2
      revert k1 k2 k3
      generalize wr.alloc (.cells #[.int .i64 g.a, .int .i64 g.b] 24) = W3
      intro k1 k2 k3
      have HS : Hid (∀ W, Below W3.heap.size W3 W → (W.cell? ⟨GB, 0, none⟩ = some (.int .i64 g.a) ∧ W.cell? ⟨GB, 1, none⟩ = some (.int .i64 g.b) ∧ W.cell? ⟨G, p, none⟩ = some (.int .i64 u) ∧ W.cell? ⟨G, q, none⟩ = some (.int .i64 v)) ∧ W.heap[G]? = some (.cells (ints (L ++ List.replicate (V - L.length) 0)).toArray 3 (0, 0)) ∧ Below w.heap.size w W) := fun W hW => by
        have h1 := blk_below hW (blk_lt k2) k2
        have h2 := (blk_all (blk_below hW (blk_lt k1) k1)).1
        exact ⟨⟨by simpa using h2 0, by simpa using h2 1, ints_cell h1 hAu, ints_cell h1 hAv⟩, h1, k3.trans (hW.mono k3.size)⟩
      clear k1 k2 k3 hAu hAv
      refine wp_region_E (fun W => W.cell? ⟨GB, 0, none⟩ = some (.int .i64 g.a) ∧ W.cell? ⟨GB, 1, none⟩ = some (.int .i64 g.b) ∧ W.cell? ⟨G, p, none⟩ = some (.int .i64 u) ∧ W.cell? ⟨G, q, none⟩ = some (.int .i64 v)) 20 (.q 0 (.q 1 (.q 3 (.q 5 (.q 6 (.q 7 (.q 8 (.q 9 (.q 10 (.q 11 (.q 12 (.q 13 (.q 14 (.q 15 (.q 16 (.q 17 (.q 18 (.e 2 (.q 4 (.q 19 (.z 20))))))))))))))))))))) (by kernel_rfl) (by kernel_rfl) (by kernel_rfl) (by kernel_rfl) (by kernel_rfl) (by kernel_rfl) (HS.out _ (Below.refl _ _).drew).1 ?_
      have hdr : Below W3.heap.size W3 W3.drew := (Below.refl _ _).drew
      revert hdr
      generalize W3.drew = WD
      intro hdr
      repeat (first | (refine orde_s (o := ?_) ?_ ?_ ?_; rotate_left 1; (focus ((simp only [List.getElem?_toArray, List.getElem?_cons_succ, List.getElem?_cons_zero]) <;> rfl)); (focus rfl); simp only [Act.put, List.setIfInBounds_toArray, List.set_cons_zero, List.set_cons_succ]) | (refine orde_q (o := ?_) (v := ?_) ?_ ?_ ?_ ?_; rotate_left 2; (focus ((simp only [List.getElem?_toArray, List.getElem?_cons_succ, List.getElem?_cons_zero]) <;> rfl)); (focus rfl); (focus (intro w' hS; (try dsimp only at hS); go_split_ands; go_simp; (try (with_reducible rfl)))); simp only [Act.put, List.setIfInBounds_toArray, List.set_cons_zero, List.set_cons_succ]))
      refine orde_e ?_
      (refine ope_e (o := ?_) ?_ ?_ (fun K hK => ?_); rotate_left 1; (focus ((simp only [List.getElem?_toArray, List.getElem?_cons_succ, List.getElem?_cons_zero]) <;> rfl)); (focus rfl); go_simp)
      refine (firstGate_any b c.inp sn c.next.length cn _ _ WD (HB.out _ (HS.out _ hdr).2.2).1 (by omega) (by omega)).mono ?_
      rintro e w4 ⟨rfl, hd⟩
      rw [HFF.out.1]
      have hb4 := hdr.trans ((hd.below _).mono hdr.size)
      refine hK.out _ _ (HS.out _ hb4).1 ?_
      clear hK K hd
      have H4 := Lib.hid hb4
      clear hb4 hdr
      have z0 : ∃ x, w4.cell? ⟨G, fk, none⟩ = some (.int .i64 x) := by
        obtain ⟨x, hx⟩ := get_of_lt (l := L ++ List.replicate (V - L.length) 0) (k := fk) (by rw [List.length_append, List.length_replicate]; have := HL.out.2.2.2.2.1; omega)
        exact ⟨x, ints_cell (HS.out _ H4.out).2.1 hx⟩
      obtain ⟨x0, z0⟩ := z0
      have z1 : w4.frozen? ⟨G, fk, none⟩ = false := blk_free (HS.out _ H4.out).2.1
      (try simp only [Act.put, List.setIfInBounds_toArray, List.set_cons_zero, List.set_cons_succ])
      repeat (first | (refine orde_s (o := ?_) ?_ ?_ ?_; rotate_left 1; (focus ((simp only [List.getElem?_toArray, List.getElem?_cons_succ, List.getElem?_cons_zero]) <;> rfl)); (focus rfl); simp only [Act.put, List.setIfInBounds_toArray, List.set_cons_zero, List.set_cons_succ]) | (refine orde_q (o := ?_) (v := ?_) ?_ ?_ ?_ ?_; rotate_left 2; (focus ((simp only [List.getElem?_toArray, List.getElem?_cons_succ, List.getElem?_cons_zero]) <;> rfl)); (focus rfl); (focus (intro w' hS; (try dsimp only at hS); go_split_ands; go_simp; (try (with_reducible rfl)))); simp only [Act.put, List.setIfInBounds_toArray, List.set_cons_zero, List.set_cons_succ]))
      (refine orde_z (o := ?_) ?_ ?_ (fun K hK => ?_); rotate_left 1; (focus ((simp only [List.getElem?_toArray, List.getElem?_cons_succ, List.getElem?_cons_zero]) <;> rfl)); (focus rfl); go_simp)
      refine hK.out _ _ ?_
      clear hK K z0 z1
      have r1 : (w4.setCell ⟨G, fk, none⟩ (.int .i64 m1)).heap[G]? = some (.cells (ints (lvlL F (c.gates.take (k + 1)) ++ List.replicate (V - (lvlL F (c.gates.take (k + 1))).length) 0)).toArray 3 (0, 0)) := by
        have h := ints_blk_set (HS.out _ H4.out).2.1 fk m1
        obtain ⟨hg, hL, hu, hv, hll, hfk, hmx, hm1⟩ := HL.out
        have e1 : lvlL F (c.gates.take (k + 1)) = L ++ [m1] := by
          rw [lvlL_take hg, ← hL]
          congr 2
          rw [hm1, hmx, List.getD_eq_getElem?_getD, List.getD_eq_getElem?_getD]
          have e2 : (g.a / 2).toNat = p := by rw [← Int.tdiv_eq_ediv_of_nonneg a0, ta]; exact Int.toNat_natCast p
          have e3 : (g.b / 2).toNat = q := by rw [← Int.tdiv_eq_ediv_of_nonneg b0, tb]; exact Int.toNat_natCast q
          rw [e2, e3, hu, hv]; rfl
        rw [e1, List.length_append, List.length_singleton]
        have e5 : fk = L.length := by omega
        rw [e5, fill_set L V L.length (by omega) (by omega)] at h
        rw [e5]
        exact h
      have r2 : Below w.heap.size w (w4.setCell ⟨G, fk, none⟩ (.int .i64 m1)) := (HS.out _ H4.out).2.2.setCell (p := ⟨G, fk, none⟩) x3 _
      have H9 := Lib.hid (And.intro r1 r2)
      clear r1 r2
      go_wp2_with fail
      go_roundw
      case rel => exact ⟨k + 1, by omega, by go_num, H9.out.1, H9.out.2⟩
      case measure => simp [intOf]; omega
    · obtain rfl : k = n := by omega
      have hlv : (lvlL F (c.gates.take k)).length = V := by rw [lvlL_length, List.length_take, ← HFF.out.2.2.1, Nat.min_self]; exact HFF.out.2.1.symm
      rw [hlv, Nat.sub_self, List.replicate_zero, List.append_nil] at hb
      have hLe : lvlL F (c.gates.take k) = lvlL F c.gates := by rw [HFF.out.2.2.1, List.take_length]
      rw [hLe] at hb hlv
      obtain ⟨L, hL⟩ : ∃ L, L = lvlL F c.gates := ⟨_, rfl⟩
      rw [← hL] at hb hlv
      obtain ⟨rs, hrs⟩ : ∃ rs, rs = c.next ++ c.outs := ⟨_, rfl⟩
      have hrl : rs.length = c.next.length + c.outs.length := by rw [hrs]; simp
      have hlit : ∀ x ∈ rs, 0 ≤ x ∧ x / 2 < V := fun x hx => by
        have h1 : litP x c.vars := by
          rw [hrs] at hx
          rcases List.mem_append.1 hx with h | h
          · exact HFF.out.2.2.2.2.2.next x h
          · exact HFF.out.2.2.2.2.2.outs x h
        have eV : c.vars = 1 + c.inp + (c.next.length : Int) + (c.gates.length : Int) := rfl
        have := HFF.out.2.2.2.1
        rw [← HFF.out.2.2.1] at eV
        unfold litP at h1
        omega
      have hLb : ∀ x ∈ L, 0 ≤ x ∧ x ≤ 14 := fun x hx => by
        have := lvlL_bd F c.gates x (by rw [← hL]; exact hx)
        have h3 := HFF.out.2.2.1
        omega
      obtain ⟨ds, hds⟩ : ∃ ds, ds = rs.map (lvA L) := ⟨_, rfl⟩
      have hdl : ds.length = rs.length := by rw [hds]; simp
      have hdb : ∀ x ∈ ds, 0 ≤ x ∧ x ≤ 14 := fun x hx => by
        rw [hds] at hx
        obtain ⟨y, hy, rfl⟩ := List.mem_map.1 hx
        unfold lvA
        rw [List.getD_eq_getElem?_getD]
        cases e : L[(y / 2).toNat]? with
        | none => simp
        | some z => simpa using hLb z (List.mem_of_getElem? e)
      have hdep : depC c = mxL ds := by unfold depC; rw [hds, hrs, hL, HFF.out.2.2.2.2.1]
      have HL := Lib.hid (And.intro hrs (And.intro hlit (And.intro hds (And.intro hdl (And.intro hdb (And.intro hdep hlv))))))
      have HR := Lib.hid (And.intro hb hbl)
      clear hL hlv hLe hlit hLb hds hdl hdb hdep hb hbl
      have hC := (HB.out _ HR.out.2)
      go_upto_region 9 with (go_at_call 71; refine (roots_any b c.inp sn so cn co c.next c.outs _ _ (HB.out _ HR.out.2).1 (HB.out _ HR.out.2).2.1 (HB.out _ HR.out.2).2.2.2 (by omega) (by omega)).mono ?_; rintro e w5 ⟨s5, c5, rfl, ho5, hq⟩; rw [ints_append, ← HL.out.1] at ho5; have H5 := Lib.hid (And.intro (own_sl ho5) (And.intro (blk_below hq (blk_lt HR.out.1) HR.out.1) (HR.out.2.trans (hq.mono HR.out.2.size)))); clear ho5 hq)
      clear hC hrs
      rw [← hrl]
      obtain ⟨R, hR⟩ : ∃ R, R = rs.length := ⟨_, rfl⟩
      rw [← hR]
      have hri : (c.next.length : Int) + (c.outs.length : Int) = (R : Int) := by omega
      rw [hri]
      have HRl := Lib.hid hR
      have hR6 : R ≤ 6 := by omega
      clear hR hrl hri
      go_loopw [46, 6] (fun i d wr => ∃ k : Nat, k ≤ R ∧ i = .int .i64 k ∧ d = .int .i64 (mxL (ds.take k)) ∧ Below w5.heap.size w5 wr) (fun i _ _ => R - (intOf i).toNat)
      case atStart => exact ⟨0, Nat.zero_le _, rfl, rfl, Below.refl _ _⟩
      case round =>
        obtain ⟨k2, hk2, rfl, rfl, hb2⟩ := hrel
        have HK := Lib.hid hb2
        clear hb2
        by_cases hlt2 : k2 < R
        · obtain ⟨l, hl⟩ := get_of_lt (l := rs) (k := k2) (by rw [← HRl.out]; exact hlt2)
          obtain ⟨b5, o5, rfl, hb5, z5⟩ := H5.out.1.int HK.out hl
          obtain ⟨l0, l1⟩ := HL.out.2.1 l (List.mem_of_getElem? hl)
          obtain ⟨p, hp⟩ : ∃ p : Nat, l / 2 = p := ⟨(l / 2).toNat, by omega⟩
          have hpV : p < V := by omega
          obtain ⟨u, hu⟩ := get_of_lt (l := L) (k := p) (by rw [HL.out.2.2.2.2.2.2]; exact hpV)
          have hd : ds[k2]? = some u := by
            rw [HL.out.2.2.1, List.getElem?_map, hl, Option.map_some]
            congr 1
            unfold lvA
            rw [hp, Int.toNat_natCast, List.getD_eq_getElem?_getD, hu]; rfl
          have hub := HL.out.2.2.2.2.1 u (List.mem_of_getElem? hd)
          obtain ⟨u0, u1⟩ := hub
          have hmt := mxL_take hd
          obtain ⟨d0, d1⟩ := mxL_bd (L := ds.take k2) (B := 14) (by omega) (fun x hx => HL.out.2.2.2.2.1 x (List.mem_of_mem_take hx))
          obtain ⟨d, hdd⟩ : ∃ d, d = mxL (ds.take k2) := ⟨_, rfl⟩
          rw [← hdd] at hmt d0 d1 ⊢
          obtain ⟨mx, hmx⟩ : ∃ mx, mx = max d u := ⟨_, rfl⟩
          have hif : (if d < u then u else d) = mx := by split <;> omega
          have zG := ints_cell (blk_below HK.out (blk_lt H5.out.2.1) H5.out.2.1) hu
          rw [← hmx] at hmt
          have HM := Lib.hid hmt
          clear hl hb5 hu hd hmt hmx hdd
          go_wp2_with fail
          go_roundw
          case rel => exact ⟨k2 + 1, by omega, by go_num, by rw [HM.out], HK.out⟩
          case measure => simp [intOf]; omega
        · obtain rfl : k2 = R := by omega
          go_wp2_with fail
          go_ret
          exact ⟨ret_int (by rw [HL.out.2.2.2.2.2.1, List.take_of_length_le (by rw [HL.out.2.2.2.1, HRl.out]; exact Nat.le_refl _)]), H5.out.2.2.trans (HK.out.mono H5.out.2.2.size)⟩

end Go.Proofs.Ytdcjiclonjillaa
