import Derived.Test.YtjecchljhdfjdaaZZ2OB
import Derived.Test.YtjecchljhdfjdaaZZ2JG
import Derived.Test.YtjecchljhdfjdaaZZ2OS
namespace Go.Proofs.Ytjecchljhdfjdaa
set_option linter.unusedVariables false
set_option linter.unusedSimpArgs false
open Go.RowKit

/-! Part of the proof of one law. -/

theorem lvlL_take {F : Nat} {gs : List Gt} {k : Nat} {g : Gt} (h : gs[k]? = some g) : lvlL F (gs.take (k + 1)) = lvlL F (gs.take k) ++ [1 + max ((lvlL F (gs.take k)).getD (g.a / 2).toNat 0) ((lvlL F (gs.take k)).getD (g.b / 2).toNat 0)] := by
  rw [List.take_add_one, h, Option.toList_some, lvlL_snoc]; rfl

theorem fill_set (L : List Int) (n k : Nat) (h : L.length ≤ n) (hk : L.length < n) (v : Int) : (L ++ List.replicate (n - L.length) (0 : Int)).set L.length v = (L ++ [v]) ++ List.replicate (n - (L.length + 1)) 0 := by
  obtain ⟨d, hd⟩ : ∃ d, n - L.length = d + 1 := ⟨n - L.length - 1, by omega⟩
  rw [hd, show n - (L.length + 1) = d by omega, List.replicate_succ, List.set_append_right _ _ (Nat.le_refl _), Nat.sub_self]
  simp

theorem mxL_snoc (L : List Int) (x : Int) : mxL (L ++ [x]) = max (mxL L) x := by simp [mxL]

theorem mxL_take {L : List Int} {k : Nat} {x : Int} (h : L[k]? = some x) : mxL (L.take (k + 1)) = max (mxL (L.take k)) x := by
  rw [List.take_add_one, h, Option.toList_some, mxL_snoc]

theorem mxL_bd {L : List Int} {B : Int} (hB : 0 ≤ B) (h : ∀ x ∈ L, 0 ≤ x ∧ x ≤ B) : 0 ≤ mxL L ∧ mxL L ≤ B := by
  have : ∀ (L : List Int) (a : Int), 0 ≤ a → a ≤ B → (∀ x ∈ L, 0 ≤ x ∧ x ≤ B) → 0 ≤ L.foldl max a ∧ L.foldl max a ≤ B := by
    intro L
    induction L with
    | nil => intro a h0 h1 _; exact ⟨h0, h1⟩
    | cons x L ih => intro a h0 h1 h; have := h x (by simp); exact ih _ (by omega) (by omega) fun y hy => h y (by simp [hy])
  exact this L 0 (Int.le_refl _) hB h

set_option maxRecDepth 100000 in
set_option maxHeartbeats 3200000 in
theorem depth_any (b : Nat) (sn sg so : Option Addr) (cn cg co : Nat) (c : Cir) (w : World) (h : CirAt w b c.inp (.slice sn c.next.length cn) (.slice sg c.gates.length cg) (.slice so c.outs.length co)) (hn : Sl w sn (ints c.next)) (hg : Sl w sg (gcells c.gates)) (ho : Sl w so (ints c.outs)) (hv : c.valid) :
    Calls Try.prog 37 #[.pointer (some ⟨b, 0, none⟩)] w fun e w' => e = .returned (.int .i64 (depC c)) ∧ Below w.heap.size w w' := by
  have HBl : Hid (b < w.heap.size) := World.block_lt_of_cell? w _ h.h0
  obtain ⟨q1, q2, q3, q4, q5⟩ := id hv.lim
  obtain ⟨F, hF⟩ : ∃ F : Nat, 1 + c.inp + (c.next.length : Int) = F := ⟨(1 + c.inp + (c.next.length : Int)).toNat, by omega⟩
  obtain ⟨n, hnn⟩ : ∃ n, n = c.gates.length := ⟨_, rfl⟩
  obtain ⟨V, hV⟩ : ∃ V, V = F + n := ⟨_, rfl⟩
  have hF8 : F ≤ 8 := by omega
  have hn14 : n ≤ 14 := by omega
  have hV22 : V ≤ 22 := by omega
  have eF : c.first.toNat = F := by rw [show c.first = (F : Int) from hF, Int.toNat_natCast]
  have HB : Hid (∀ W, Below w.heap.size w W → CirAt W b c.inp (.slice sn c.next.length cn) (.slice sg n cg) (.slice so c.outs.length co) ∧ Sl W sn (ints c.next) ∧ Sl W sg (gcells c.gates) ∧ Sl W so (ints c.outs)) := fun W hb => by
    rw [hnn]
    exact ⟨⟨(hb.cell (p := ⟨b, 0, none⟩) HBl.out).trans h.h0, (hb.cell (p := ⟨b, 1, none⟩) HBl.out).trans h.h1, (hb.cell (p := ⟨b, 2, none⟩) HBl.out).trans h.h2, (hb.cell (p := ⟨b, 3, none⟩) HBl.out).trans h.h3⟩, hn.mono hb, hg.mono hb, ho.mono hb⟩
  have hVn : 1 + c.inp + (c.next.length : Int) + (n : Int) = (V : Int) := by omega
  have HFF := Lib.hid (And.intro hF (And.intro hV (And.intro hnn (And.intro hVn (And.intro eF hv)))))
  have hmk := fun w => mkInts w V (by omega)
  have hFV : F + n ≤ V := by omega
  have hFV2 : V ≤ F + n := by omega
  clear h hn hg ho hv hF eF q4 hnn hVn hV
  obtain ⟨c0, c1, c2, c3⟩ := (HB.out _ (Below.refl _ _)).1
  go_enter Try.func37, Try.ntmps37
  go_upto_region 2 with (go_at_call 38; refine (vars_any b c.inp sn sg c.next.length cn n cg _ _ (HB.out _ (Below.refl _ _)).1 (by omega) (by omega) (by omega)).mono ?_; rintro e w1 ⟨rfl, hd⟩; rw [HFF.out.2.2.2.1]; have H1 := Lib.hid (hd.below w.heap.size); clear hd c0 c1 c2 c3)
  obtain ⟨G, hG⟩ : ∃ G, G = w1.heap.size := ⟨_, rfl⟩
  have x1 := blk_new w1 (.cells (ints (List.replicate V 0)).toArray 3)
  have x2 := H1.out.alloc H1.out.size (.cells (ints (List.replicate V 0)).toArray 3)
  have x3 : w.heap.size ≤ G := by rw [hG]; exact H1.out.size
  rw [← hG] at x1
  rw [← hG]
  clear hmk hG
  revert x1 x2
  generalize w1.alloc (.cells (ints (List.replicate V 0)).toArray 3) = W2
  intro x1 x2
  have H2 := Lib.hid (And.intro x1 x2)
  obtain ⟨c0, c1, c2, c3⟩ := (HB.out _ x2).1
  clear x1 x2
  go_wp2_with fail
  clear c0 c1 c2 c3
  go_loopw [17] (fun i wr => ∃ k : Nat, k ≤ n ∧ i = .int .i64 k ∧ wr.heap[G]? = some (.cells (ints (lvlL F (c.gates.take k) ++ List.replicate (V - (lvlL F (c.gates.take k)).length) 0)).toArray 3 (0, 0)) ∧ Below w.heap.size w wr) (fun i _ => n - (intOf i).toNat)
  case atStart => exact ⟨0, Nat.zero_le _, rfl, by
    have h := H2.out.1
    have e : lvlL F (c.gates.take 0) ++ List.replicate (V - (lvlL F (c.gates.take 0)).length) 0 = List.replicate V 0 := by
      rw [lvlL_length, List.take_zero]
      show List.replicate F 0 ++ _ = _
      rw [List.replicate_append_replicate]
      congr 1; simp; omega
    rw [e]; exact h, H2.out.2⟩
  case round =>
    obtain ⟨k, hk, rfl, hb, hbl⟩ := hrel
    by_cases hlt : k < n
    · obtain ⟨g, hg⟩ := get_of_lt (l := c.gates) (k := k) (by rw [← HFF.out.2.2.1]; exact hlt)
      obtain ⟨bg, og, rfl, hbw, z1, z2⟩ := (HB.out _ hbl).2.2.1.gate (Below.refl _ _) hg
      obtain ⟨⟨a0, a1⟩, b0, b1⟩ := valid_gate HFF.out.2.2.2.2.2 hg
      rw [show c.first = (F : Int) from HFF.out.1] at a1 b1
      have hll : (lvlL F (c.gates.take k)).length = F + k := by rw [lvlL_length, List.length_take, ← HFF.out.2.2.1, Nat.min_eq_left (by omega)]
      obtain ⟨L, hL⟩ : ∃ L, L = lvlL F (c.gates.take k) := ⟨_, rfl⟩
      have hLb : ∀ x ∈ L, 0 ≤ x ∧ x ≤ 14 := fun x hx => by
        have := lvlL_bd F (c.gates.take k) x (by rw [← hL]; exact hx)
        rw [List.length_take] at this
        have h3 := HFF.out.2.2.1
        omega
      rw [← hL] at hll hb
      obtain ⟨p, hp⟩ : ∃ p : Nat, g.a / 2 = p := ⟨(g.a / 2).toNat, by omega⟩
      obtain ⟨q, hq⟩ : ∃ q : Nat, g.b / 2 = q := ⟨(g.b / 2).toNat, by omega⟩
      have hpF : p < F + k := by omega
      have hqF : q < F + k := by omega
      have hpV : p < V := by omega
      have hqV : q < V := by omega
      obtain ⟨u, hu⟩ := get_of_lt (l := L) (k := p) (by omega)
      obtain ⟨v, hv⟩ := get_of_lt (l := L) (k := q) (by omega)
      obtain ⟨u0, u1⟩ := hLb u (List.mem_of_getElem? hu)
      obtain ⟨v0, v1⟩ := hLb v (List.mem_of_getElem? hv)
      have ta : g.a.tdiv 2 = p := by rw [Int.tdiv_eq_ediv_of_nonneg a0]; exact hp
      have tb : g.b.tdiv 2 = q := by rw [Int.tdiv_eq_ediv_of_nonneg b0]; exact hq
      have wp : IntKind.i64.wrap (p : Int) = p := IntWalk.i64_in _ ⟨by omega, by omega⟩
      have wq : IntKind.i64.wrap (q : Int) = q := IntWalk.i64_in _ ⟨by omega, by omega⟩
      obtain ⟨fk, hfk⟩ : ∃ fk : Nat, fk = F + k := ⟨_, rfl⟩
      have wfk : IntKind.i64.wrap ((F : Int) + (k : Int)) = (fk : Int) := by rw [IntWalk.i64_in _ ⟨by omega, by omega⟩]; omega
      have hfkV : fk < V := by omega
      have hAu : (L ++ List.replicate (V - L.length) 0)[p]? = some u := by rw [List.getElem?_append_left (by omega)]; exact hu
      have hAv : (L ++ List.replicate (V - L.length) 0)[q]? = some v := by rw [List.getElem?_append_left (by omega)]; exact hv
      obtain ⟨mx, hmx⟩ : ∃ mx, mx = max u v := ⟨_, rfl⟩
      have hif : (if u < v then v else u) = mx := by split <;> omega
      obtain ⟨m1, hm1⟩ : ∃ m1, m1 = 1 + mx := ⟨_, rfl⟩
      have wm : IntKind.i64.wrap (1 + mx) = m1 := by rw [IntWalk.i64_in _ ⟨by omega, by omega⟩]; exact hm1.symm
      have em : 1 + mx = m1 := hm1.symm
      obtain ⟨GB, hGB⟩ : ∃ GB, GB = wr.heap.size := ⟨_, rfl⟩
      have hGG : G < GB := by rw [hGB]; exact blk_lt hb
      have k1 := blk_new wr (.cells #[.int .i64 g.a, .int .i64 g.b] 24)
      have k2 := blk_old (o := .cells #[.int .i64 g.a, .int .i64 g.b] 24) hb
      have k3 := hbl.alloc hbl.size (.cells #[.int .i64 g.a, .int .i64 g.b] 24)
      rw [← hGB] at k1
      have HL := Lib.hid (And.intro hg (And.intro hL (And.intro hu (And.intro hv (And.intro hll (And.intro hfk (And.intro hmx hm1)))))))
      clear hb hbl hg hL hLb hu hv hbw a1 b1 hll hp hq hfk hmx hm1
      go_upto_region 5 with fail
      rw [← hGB]
      clear hGB z1 z2
      revert k1 k2 k3
      generalize wr.alloc (.cells #[.int .i64 g.a, .int .i64 g.b] 24) = W3
      intro k1 k2 k3
      have HS : Hid (∀ W, Below W3.heap.size W3 W → (W.cell? ⟨GB, 0, none⟩ = some (.int .i64 g.a) ∧ W.cell? ⟨GB, 1, none⟩ = some (.int .i64 g.b) ∧ W.cell? ⟨G, p, none⟩ = some (.int .i64 u) ∧ W.cell? ⟨G, q, none⟩ = some (.int .i64 v)) ∧ W.heap[G]? = some (.cells (ints (L ++ List.replicate (V - L.length) 0)).toArray 3 (0, 0)) ∧ Below w.heap.size w W) := fun W hW => by
        have h1 := blk_below hW (blk_lt k2) k2
        have h2 := (blk_all (blk_below hW (blk_lt k1) k1)).1
        exact ⟨⟨by simpa using h2 0, by simpa using h2 1, ints_cell h1 hAu, ints_cell h1 hAv⟩, h1, k3.trans (hW.mono k3.size)⟩
      clear k1 k2 k3 hAu hAv
      refine wp_region_E (fun W => W.cell? ⟨GB, 0, none⟩ = some (.int .i64 g.a) ∧ W.cell? ⟨GB, 1, none⟩ = some (.int .i64 g.b) ∧ W.cell? ⟨G, p, none⟩ = some (.int .i64 u) ∧ W.cell? ⟨G, q, none⟩ = some (.int .i64 v)) 20 (.q 0 (.q 1 (.q 3 (.q 5 (.q 6 (.q 7 (.q 8 (.q 9 (.q 10 (.q 11 (.q 12 (.q 13 (.q 14 (.q 15 (.q 16 (.q 17 (.q 18 (.e 2 (.q 4 (.q 19 (.z 20))))))))))))))))))))) (by kernel_rfl) (by kernel_rfl) (by kernel_rfl) (by kernel_rfl) (by kernel_rfl) (by kernel_rfl) (HS.out _ (Below.refl _ _).drew).1 ?_
      have hdr : Below W3.heap.size W3 W3.drew := (Below.refl _ _).drew
      revert hdr
      generalize W3.drew = WD
      intro hdr
      repeat (first | (refine orde_s (o := ?_) ?_ ?_ ?_; rotate_left 1; (focus ((simp only [zD, zE, zF]) <;> rfl)); (focus rfl); simp only [Act.put, zA, zB, zC]) | (refine orde_q (o := ?_) (v := ?_) ?_ ?_ ?_ ?_; rotate_left 2; (focus ((simp only [zD, zE, zF]) <;> rfl)); (focus rfl); (focus (intro w' hS; (try dsimp only at hS); go_split_ands; go_simp; (try (with_reducible rfl)))); simp only [Act.put, zA, zB, zC]))
      refine orde_e ?_
      (refine ope_e (o := ?_) ?_ ?_ (fun K hK => ?_); rotate_left 1; (focus ((simp only [zD, zE, zF]) <;> rfl)); (focus rfl); go_simp)
      refine (firstGate_any b c.inp sn c.next.length cn _ _ WD (HB.out _ (HS.out _ hdr).2.2).1 (by omega) (by omega)).mono ?_
      rintro e w4 ⟨rfl, hd⟩
      rw [HFF.out.1]
      have hb4 := hdr.trans ((hd.below _).mono hdr.size)
      refine hK.out _ _ (HS.out _ hb4).1 ?_
      clear hK K hd
      have H4 := Lib.hid hb4
      clear hb4 hdr
      have z0 : ∃ x, w4.cell? ⟨G, fk, none⟩ = some (.int .i64 x) := by
        obtain ⟨x, hx⟩ := get_of_lt (l := L ++ List.replicate (V - L.length) 0) (k := fk) (by rw [List.length_append, List.length_replicate]; have := HL.out.2.2.2.2.1; omega)
        exact ⟨x, ints_cell (HS.out _ H4.out).2.1 hx⟩
      obtain ⟨x0, z0⟩ := z0
      have z1 : w4.frozen? ⟨G, fk, none⟩ = false := blk_free (HS.out _ H4.out).2.1
      (try simp only [Act.put, zA, zB, zC])
      repeat (first | (refine orde_s (o := ?_) ?_ ?_ ?_; rotate_left 1; (focus ((simp only [zD, zE, zF]) <;> rfl)); (focus rfl); simp only [Act.put, zA, zB, zC]) | (refine orde_q (o := ?_) (v := ?_) ?_ ?_ ?_ ?_; rotate_left 2; (focus ((simp only [zD, zE, zF]) <;> rfl)); (focus rfl); (focus (intro w' hS; (try dsimp only at hS); go_split_ands; go_simp; (try (with_reducible rfl)))); simp only [Act.put, zA, zB, zC]))
      (refine orde_z (o := ?_) ?_ ?_ (fun K hK => ?_); rotate_left 1; (focus ((simp only [zD, zE, zF]) <;> rfl)); (focus rfl); go_simp)
      refine hK.out _ _ ?_
      clear hK K z0 z1
      have r1 : (w4.setCell ⟨G, fk, none⟩ (.int .i64 m1)).heap[G]? = some (.cells (ints (lvlL F (c.gates.take (k + 1)) ++ List.replicate (V - (lvlL F (c.gates.take (k + 1))).length) 0)).toArray 3 (0, 0)) := by
        have h := ints_blk_set (HS.out _ H4.out).2.1 fk m1
        obtain ⟨hg, hL, hu, hv, hll, hfk, hmx, hm1⟩ := HL.out
        have e1 : lvlL F (c.gates.take (k + 1)) = L ++ [m1] := by
          rw [lvlL_take hg, ← hL]
          congr 2
          rw [hm1, hmx, List.getD_eq_getElem?_getD, List.getD_eq_getElem?_getD]
          have e2 : (g.a / 2).toNat = p := by rw [← Int.tdiv_eq_ediv_of_nonneg a0, ta]; exact Int.toNat_natCast p
          have e3 : (g.b / 2).toNat = q := by rw [← Int.tdiv_eq_ediv_of_nonneg b0, tb]; exact Int.toNat_natCast q
          rw [e2, e3, hu, hv]; rfl
        rw [e1, List.length_append, List.length_singleton]
        have e5 : fk = L.length := by omega
        rw [e5, fill_set L V L.length (by omega) (by omega)] at h
        rw [e5]
        exact h
      have r2 : Below w.heap.size w (w4.setCell ⟨G, fk, none⟩ (.int .i64 m1)) := (HS.out _ H4.out).2.2.setCell (p := ⟨G, fk, none⟩) x3 _
      have H9 := Lib.hid (And.intro r1 r2)
      clear r1 r2
      go_wp2_with fail
      go_roundw
      case rel => exact ⟨k + 1, by omega, by go_num, H9.out.1, H9.out.2⟩
      case measure => simp [intOf]; omega
    · obtain rfl : k = n := by omega
      have hlv : (lvlL F (c.gates.take k)).length = V := by rw [lvlL_length, List.length_take, ← HFF.out.2.2.1, Nat.min_self]; exact HFF.out.2.1.symm
      rw [hlv, Nat.sub_self, List.replicate_zero, List.append_nil] at hb
      have hLe : lvlL F (c.gates.take k) = lvlL F c.gates := by rw [HFF.out.2.2.1, List.take_length]
      rw [hLe] at hb hlv
      obtain ⟨L, hL⟩ : ∃ L, L = lvlL F c.gates := ⟨_, rfl⟩
      rw [← hL] at hb hlv
      obtain ⟨rs, hrs⟩ : ∃ rs, rs = c.next ++ c.outs := ⟨_, rfl⟩
      have hrl : rs.length = c.next.length + c.outs.length := by rw [hrs]; simp
      have hlit : ∀ x ∈ rs, 0 ≤ x ∧ x / 2 < V := fun x hx => by
        have h1 : litP x c.vars := by
          rw [hrs] at hx
          rcases List.mem_append.1 hx with h | h
          · exact HFF.out.2.2.2.2.2.next x h
          · exact HFF.out.2.2.2.2.2.outs x h
        have eV : c.vars = 1 + c.inp + (c.next.length : Int) + (c.gates.length : Int) := rfl
        have := HFF.out.2.2.2.1
        rw [← HFF.out.2.2.1] at eV
        unfold litP at h1
        omega
      have hLb : ∀ x ∈ L, 0 ≤ x ∧ x ≤ 14 := fun x hx => by
        have := lvlL_bd F c.gates x (by rw [← hL]; exact hx)
        have h3 := HFF.out.2.2.1
        omega
      obtain ⟨ds, hds⟩ : ∃ ds, ds = rs.map (lvA L) := ⟨_, rfl⟩
      have hdl : ds.length = rs.length := by rw [hds]; simp
      have hdb : ∀ x ∈ ds, 0 ≤ x ∧ x ≤ 14 := fun x hx => by
        rw [hds] at hx
        obtain ⟨y, hy, rfl⟩ := List.mem_map.1 hx
        unfold lvA
        rw [List.getD_eq_getElem?_getD]
        cases e : L[(y / 2).toNat]? with
        | none => simp
        | some z => simpa using hLb z (List.mem_of_getElem? e)
      have hdep : depC c = mxL ds := by unfold depC; rw [hds, hrs, hL, HFF.out.2.2.2.2.1]
      have HL := Lib.hid (And.intro hrs (And.intro hlit (And.intro hds (And.intro hdl (And.intro hdb (And.intro hdep hlv))))))
      have HR := Lib.hid (And.intro hb hbl)
      clear hL hlv hLe hlit hLb hds hdl hdb hdep hb hbl
      have hC := (HB.out _ HR.out.2)
      go_upto_region 9 with (go_at_call 71; refine (roots_any b c.inp sn so cn co c.next c.outs _ _ (HB.out _ HR.out.2).1 (HB.out _ HR.out.2).2.1 (HB.out _ HR.out.2).2.2.2 (by omega) (by omega)).mono ?_; rintro e w5 ⟨s5, c5, rfl, ho5, hq⟩; rw [ints_append, ← HL.out.1] at ho5; have H5 := Lib.hid (And.intro (own_sl ho5) (And.intro (blk_below hq (blk_lt HR.out.1) HR.out.1) (HR.out.2.trans (hq.mono HR.out.2.size)))); clear ho5 hq)
      clear hC hrs
      rw [← hrl]
      obtain ⟨R, hR⟩ : ∃ R, R = rs.length := ⟨_, rfl⟩
      rw [← hR]
      have hri : (c.next.length : Int) + (c.outs.length : Int) = (R : Int) := by omega
      rw [hri]
      have HRl := Lib.hid hR
      have hR6 : R ≤ 6 := by omega
      clear hR hrl hri
      go_loopw [46, 6] (fun i d wr => ∃ k : Nat, k ≤ R ∧ i = .int .i64 k ∧ d = .int .i64 (mxL (ds.take k)) ∧ Below w5.heap.size w5 wr) (fun i _ _ => R - (intOf i).toNat)
      case atStart => exact ⟨0, Nat.zero_le _, rfl, rfl, Below.refl _ _⟩
      case round =>
        obtain ⟨k2, hk2, rfl, rfl, hb2⟩ := hrel
        have HK := Lib.hid hb2
        clear hb2
        by_cases hlt2 : k2 < R
        · obtain ⟨l, hl⟩ := get_of_lt (l := rs) (k := k2) (by rw [← HRl.out]; exact hlt2)
          obtain ⟨b5, o5, rfl, hb5, z5⟩ := H5.out.1.int HK.out hl
          obtain ⟨l0, l1⟩ := HL.out.2.1 l (List.mem_of_getElem? hl)
          obtain ⟨p, hp⟩ : ∃ p : Nat, l / 2 = p := ⟨(l / 2).toNat, by omega⟩
          have hpV : p < V := by omega
          obtain ⟨u, hu⟩ := get_of_lt (l := L) (k := p) (by rw [HL.out.2.2.2.2.2.2]; exact hpV)
          have hd : ds[k2]? = some u := by
            rw [HL.out.2.2.1, List.getElem?_map, hl, Option.map_some]
            congr 1
            unfold lvA
            rw [hp, Int.toNat_natCast, List.getD_eq_getElem?_getD, hu]; rfl
          have hub := HL.out.2.2.2.2.1 u (List.mem_of_getElem? hd)
          obtain ⟨u0, u1⟩ := hub
          have hmt := mxL_take hd
          obtain ⟨d0, d1⟩ := mxL_bd (L := ds.take k2) (B := 14) (by omega) (fun x hx => HL.out.2.2.2.2.1 x (List.mem_of_mem_take hx))
          obtain ⟨d, hdd⟩ : ∃ d, d = mxL (ds.take k2) := ⟨_, rfl⟩
          rw [← hdd] at hmt d0 d1 ⊢
          obtain ⟨mx, hmx⟩ : ∃ mx, mx = max d u := ⟨_, rfl⟩
          have hif : (if d < u then u else d) = mx := by split <;> omega
          have zG := ints_cell (blk_below HK.out (blk_lt H5.out.2.1) H5.out.2.1) hu
          rw [← hmx] at hmt
          have HM := Lib.hid hmt
          clear hl hb5 hu hd hmt hmx hdd
          go_wp2_with fail
          go_roundw
          case rel => exact ⟨k2 + 1, by omega, by go_num, by rw [HM.out], HK.out⟩
          case measure => simp [intOf]; omega
        · obtain rfl : k2 = R := by omega
          go_wp2_with fail
          go_ret
          exact ⟨ret_int (by rw [HL.out.2.2.2.2.2.1, List.take_of_length_le (by rw [HL.out.2.2.2.1, HRl.out]; exact Nat.le_refl _)]), H5.out.2.2.trans (HK.out.mono H5.out.2.2.size)⟩

/-- append keeps the cells that its first operand had. -/
theorem app_keep {P : Program} {w w' : World} {t ty e : TypeId} {z : Value} {bytes : Nat} (E : ElemOf P t e z 1 bytes) {base g n cap : Nat} {xs : List Value} (hown : w.ownsRow base e 1 (.slice (some ⟨g, 0, none⟩) n cap) n xs)
    {b off m c : Nat} {news : List Value} (hl : news.length = m * 1) (hs : ∀ j u, news[j]? = some u → w.cell? ⟨b, off + j, none⟩ = some u) (h1 : ∀ u ∈ news, u.oneCell' = true) {s' : Option Addr} {N c' : Nat} (hm : 0 < m)
    (h63 : n + m ≤ maxLen) (hbytes : (n + m) * bytes ≤ 140737488355328) (hr : (Builtin.append_ #[t, t] ty #[.slice (some ⟨g, 0, none⟩) n cap, .slice (some ⟨b, off, none⟩) m c]).run P w = .ok (.slice s' N c') w')
    (ho : w'.ownsRow base e 1 (.slice s' N c') N (xs ++ news)) (j : Nat) (u : Value) (hj : xs[j]? = some u) : w'.cell? ⟨g, j, none⟩ = some u := by
  obtain ⟨ht, ⟨i, hi, hz, h4, h5⟩, hzs, hsz⟩ := E
  have hxl : xs.length = n * 1 := hown.1
  have hjn := (List.getElem?_eq_some_iff.1 hj).1
  rcases hown.2 with ⟨e0, _⟩ | ⟨g0, cap0, cur, e0, hbg, hg, hnc, hcm, hcs, htake⟩
  · cases e0
  · cases e0
    by_cases hroom : n + m ≤ cap
    · have hr2 := run_append_room (P := P) w t ty e i ht hi g n cap cur hg ⟨b, off, none⟩ m c news (by rw [h4]; exact hl) (fun j u hu => by rw [addr_add]; exact hs j u hu) h1 hroom (by rw [h4, hl, hcs]; omega)
      rw [hr] at hr2
      injection hr2 with e1 e2
      injection e1 with e3 e4 e5
      subst e3
      rw [ho.cellAt j (by have := ho.1; rw [List.length_append] at this; omega), List.getElem?_append_left hjn]
      exact hj
    · have hr2 := run_append_grow (P := P) w t ty e i z ht hi hz ⟨g, 0, none⟩ n cap xs (by rw [h4]; exact hxl) (fun j u hu => hown.cells (g := g) rfl j u hu) ⟨b, off, none⟩ m c news (by rw [h4]; exact hl) (fun j u hu => by rw [addr_add]; exact hs j u hu) (by omega) (by simp only [maxLen] at h63; omega) (growslice_fits (by omega) (by rw [h5]; exact hbytes))
      rw [hr] at hr2
      injection hr2 with e1 e2
      rw [e2]
      have hc := hown.cellAt j (by omega)
      exact ((((Below.refl w.heap.size w).alloc (Nat.le_refl _) _).cell (p := ⟨g, j, none⟩) (blk_lt hg)).trans (hc.trans hj))

theorem wp_appK {P : Program} {w : World} {o : Oper} {a : Act} {K : Act → World → Prop} {Q : Exit → Act → World → Prop} (x y : Operand) {t e : TypeId} {z : Value} {bytes : Nat}
    (ho : o.op = .call { callee := .builtin .append, args := #[x, y], argTypes := #[t, t] }) (E : ElemOf P t e z 1 bytes) {base g n cap : Nat} {xs : List Value} (hown : w.ownsRow base e 1 (.slice (some ⟨g, 0, none⟩) n cap) n xs)
    {b off m c : Nat} {news : List Value} (hx : a.eval x = .slice (some ⟨g, 0, none⟩) n cap) (hy : a.eval y = .slice (some ⟨b, off, none⟩) m c) (hl : news.length = m * 1) (hs : ∀ j u, news[j]? = some u → w.cell? ⟨b, off + j, none⟩ = some u) (h1 : ∀ u ∈ news, u.oneCell' = true) (hm : 0 < m)
    (N : Nat) (hN : n + m = N) (L : List Value) (hL : xs ++ news = L) (h63 : N ≤ maxLen) (hbytes : N * bytes ≤ 140737488355328) (hbase : base ≤ w.heap.size)
    (h : ∀ s' c' w', w'.ownsRow base e 1 (.slice s' N c') N L → Below base w w' → w.grownBy w' (some g) → ((Value.slice s' N c').ownBlock = some g ∨ (Value.slice s' N c').ownBlock = some w.heap.size) → (∀ j u, xs[j]? = some u → w'.cell? ⟨g, j, none⟩ = some u) → K (a.put o.dst (.slice s' N c')) w') : o.wp P a w K Q := by
  subst hN hL
  obtain ⟨v', w', hr, h2, h3, h4⟩ := run_app (ty := o.type) E hown hl (.inr ⟨b, off, rfl, hs⟩) h1 h63 hbytes hbase (c := c)
  obtain ⟨s', c', rfl⟩ := own_shape h2
  unfold Oper.wp execOp
  simp only [ho, resolve, invoke, builtin, Sem.run_bind, Sem.run_pure, Result.andThen_ok, List.map_toArray, List.map_cons, List.map_nil, hx, hy, hr]
  exact h s' c' w' h2 ((Below.refl _ _).grown h3 hbase (fun k hk => (own_blk hown hk).1)) h3 h4 (app_keep E hown hl hs h1 hm h63 hbytes hr h2)

set_option maxRecDepth 100000 in
set_option maxHeartbeats 3200000 in
theorem l1Levels_any (inp : Int) (sn sg so : Option Addr) (ln cn cg lo co F : Nat) (gs : List Gt) (w : World) (h2 : Sl w sg (gcells gs)) (hF : 1 + inp + (ln : Int) = F) (hi : 0 ≤ inp) (hF8 : F ≤ 8) (hgp : gatesP F gs) (q4 : gs.length ≤ 120) :
    Calls Try.prog 84 #[.agg #[.int .i64 inp, .slice sn ln cn, .slice sg gs.length cg, .slice so lo co]] w fun e w' => ∃ s cap, e = .returned (.slice s (F + gs.length) cap) ∧ Sl w' s (ints (lvlL F gs)) ∧ Below w.heap.size w w' := by
  obtain ⟨W1, hW1⟩ : ∃ W1, W1 = w.alloc (.cells #[.int .i64 inp, .slice sn ln cn, .slice sg gs.length cg, .slice so lo co] 28) := ⟨_, rfl⟩
  have hL : Below w.heap.size w W1 := by rw [hW1]; go_grown
  have hN : W1.heap[w.heap.size]? = some (.cells #[.int .i64 inp, .slice sn ln cn, .slice sg gs.length cg, .slice so lo co] 28 (0, 0)) := by rw [hW1]; exact blk_new w _
  have hF0 : 1 + inp + (ln : Int) = (F : Int) := hF
  have hF1 : 1 ≤ F := by omega
  have hi2 : inp ≤ 8 := by omega
  have hl2 : ln ≤ 8 := by omega
  obtain ⟨A, hA⟩ : ∃ A, A = w.heap.size := ⟨_, rfl⟩
  rw [← hA] at hN
  have HB : Hid (∀ W, Below (A + 1) W1 W → (∀ o, W.cell? ⟨A, o, none⟩ = #[.int .i64 inp, .slice sn ln cn, .slice sg gs.length cg, .slice so lo co][o]?) ∧ Sl W sg (gcells gs) ∧ Below w.heap.size w W ∧ A + 1 ≤ W.heap.size) := fun W hW => by
    have hb := hL.trans (hW.mono (by omega))
    exact ⟨(blk_all (blk_below hW (Nat.lt_succ_self _) hN)).1, h2.mono hb, hb, by have := blk_lt hN; have := hW.size; omega⟩
  have HW := Lib.hid (And.intro hW1 (And.intro hF0 (And.intro hA hgp)))
  have hmk := fun W => mkInts W F (by omega)
  clear h2 hN hL hW1 hF hF0 hgp hA
  have cb := (HB.out _ (Below.refl _ _)).1
  go_enter Try.func84, Try.ntmps84
  go_upto_region 1 with fail
  rw [← HW.out.1, ← HW.out.2.2.1]
  go_upto_region 2 with (go_at_call 44; ((with_reducible refine (l1First_any _ _ _ _ _ _ _ (by omega) (by omega)).mono ?_); rintro e w1 ⟨rfl, hq⟩; rw [HW.out.2.1]; have hz := (HB.out _ (Below.refl _ _)).2.2.2; have H1 := Lib.hid (hq.mono hz); clear hq hz cb))
  have x1 := own_of_blk (base := A + 1) (size := 1) (n := F) (blk_new w1 (.cells (ints (List.replicate F 0)).toArray 3)) (by have := (HB.out _ H1.out).2.2.2; omega) (by simp) (by unfold maxLen; omega)
  have x2 := H1.out.alloc (HB.out _ H1.out).2.2.2 (.cells (ints (List.replicate F 0)).toArray 3)
  clear hmk
  revert x1 x2
  generalize w1.alloc (.cells (ints (List.replicate F 0)).toArray 3) = W2
  intro x1 x2
  have H2 := Lib.hid (And.intro x1 x2)
  clear x1 x2
  go_wp2_with fail
  go_loopw [4, 3] (fun i x wr => ∃ (k : Nat) (s : Option Addr) (cc : Nat), k ≤ gs.length ∧ i = .int .i64 k ∧ x = .slice s (F + k) cc ∧ wr.ownsRow (A + 1) 3 1 x (F + k) (ints (lvlL F (gs.take k))) ∧ Below (A + 1) W1 wr) (fun i _ _ => gs.length - (intOf i).toNat)
  case atStart => exact ⟨0, _, F, Nat.zero_le _, rfl, rfl, by have h := H2.out.1; simpa [lvlL] using h, H2.out.2⟩
  case round =>
    obtain ⟨k, s3, c3, hk, rfl, rfl, ho, hbl⟩ := hrel
    have cb := (HB.out _ hbl).1
    by_cases hlt : k < gs.length
    · obtain ⟨g, hg⟩ := get_of_lt hlt
      obtain ⟨bg, og, rfl, hbw, z1, z2⟩ := (HB.out _ hbl).2.1.gate (Below.refl _ _) hg
      obtain ⟨⟨a0, a1⟩, b0, b1⟩ := gatesP_at HW.out.2.2.2 hg
      have hll : (lvlL F (gs.take k)).length = F + k := by rw [lvlL_length, List.length_take, Nat.min_eq_left (by omega)]
      obtain ⟨L, hL⟩ : ∃ L, L = lvlL F (gs.take k) := ⟨_, rfl⟩
      have hLb : ∀ x ∈ L, 0 ≤ x ∧ x ≤ 120 := fun x hx => by
        have := lvlL_bd F (gs.take k) x (by rw [← hL]; exact hx)
        rw [List.length_take] at this
        omega
      rw [← hL] at hll ho
      obtain ⟨p, hp⟩ : ∃ p : Nat, g.a / 2 = p := ⟨(g.a / 2).toNat, by omega⟩
      obtain ⟨q, hq⟩ : ∃ q : Nat, g.b / 2 = q := ⟨(g.b / 2).toNat, by omega⟩
      obtain ⟨M, hM⟩ : ∃ M, M = F + k := ⟨_, rfl⟩
      have hMb : M ≤ 128 := by omega
      have hpM : p < M := by omega
      have hqM : q < M := by omega
      rw [← hM] at hll ho
      rw [← hM]
      obtain ⟨u, hu⟩ := get_of_lt (l := L) (k := p) (by omega)
      obtain ⟨v, hv⟩ := get_of_lt (l := L) (k := q) (by omega)
      obtain ⟨u0, u1⟩ := hLb u (List.mem_of_getElem? hu)
      obtain ⟨v0, v1⟩ := hLb v (List.mem_of_getElem? hv)
      have ta : g.a.tdiv 2 = p := by rw [Int.tdiv_eq_ediv_of_nonneg a0]; exact hp
      have tb : g.b.tdiv 2 = q := by rw [Int.tdiv_eq_ediv_of_nonneg b0]; exact hq
      have wp : IntKind.i64.wrap (p : Int) = p := IntWalk.i64_in _ ⟨by omega, by omega⟩
      have wq : IntKind.i64.wrap (q : Int) = q := IntWalk.i64_in _ ⟨by omega, by omega⟩
      obtain ⟨mx, hmx⟩ : ∃ mx, mx = max u v := ⟨_, rfl⟩
      have hif : (if u < v then v else u) = mx := by split <;> omega
      obtain ⟨m1, hm1⟩ : ∃ m1, m1 = 1 + mx := ⟨_, rfl⟩
      have wm : IntKind.i64.wrap m1 = m1 := IntWalk.i64_in _ ⟨by omega, by omega⟩
      have em : 1 + mx = m1 := hm1.symm
      have e1 : lvlL F (gs.take (k + 1)) = L ++ [m1] := by
        rw [lvlL_take hg, ← hL]
        congr 2
        rw [hm1, hmx, List.getD_eq_getElem?_getD, List.getD_eq_getElem?_getD, hp, hq, Int.toNat_natCast, Int.toNat_natCast, hu, hv]; rfl
      obtain ⟨gl, hgl⟩ : ∃ gl, s3 = some ⟨gl, 0, none⟩ := by
        rcases own_some ho with ⟨_, e, _⟩ | ⟨g, e⟩
        · omega
        · exact ⟨g, e⟩
      subst hgl
      obtain ⟨GB, hGB⟩ : ∃ GB, GB = wr.heap.size := ⟨_, rfl⟩
      have k1 := blk_new wr (.cells #[.int .i64 g.a, .int .i64 g.b] 24)
      have kb := (Below.refl wr.heap.size wr).alloc (Nat.le_refl _) (.cells #[.int .i64 g.a, .int .i64 g.b] 24)
      have k2 := own_below ho kb
      have k3 := hbl.alloc (HB.out _ hbl).2.2.2 (.cells #[.int .i64 g.a, .int .i64 g.b] 24)
      rw [← hGB] at k1
      have HL := Lib.hid (And.intro e1 (And.intro hu hv))
      have hM1 : M ≤ F + k := by omega
      have hM2 : F + k ≤ M := by omega
      clear hM
      clear ho hbl hg hL hLb hu hv hbw a1 b1 hll hp hq hmx hm1 e1 kb
      go_upto_region 6 with fail
      rw [← hGB]
      clear hGB z1 z2 cb
      revert k1 k2 k3
      generalize wr.alloc (.cells #[.int .i64 g.a, .int .i64 g.b] 24) = W3
      intro k1 k2 k3
      have HS : Hid (∀ W, Below W3.heap.size W3 W → (W.cell? ⟨GB, 0, none⟩ = some (.int .i64 g.a) ∧ W.cell? ⟨GB, 1, none⟩ = some (.int .i64 g.b) ∧ W.cell? ⟨gl, p, none⟩ = some (.int .i64 u) ∧ W.cell? ⟨gl, q, none⟩ = some (.int .i64 v)) ∧ W.ownsRow (A + 1) 3 1 (.slice (some ⟨gl, 0, none⟩) M c3) M (ints L) ∧ Below (A + 1) W1 W) := fun W hW => by
        have h1 := own_below k2 hW
        have h2 := (blk_all (blk_below hW (blk_lt k1) k1)).1
        exact ⟨⟨by simpa using h2 0, by simpa using h2 1, (h1.cellAt p (by omega)).trans (ints_get HL.out.2.1), (h1.cellAt q (by omega)).trans (ints_get HL.out.2.2)⟩, h1, k3.trans (hW.mono (HB.out _ k3).2.2.2)⟩
      have HT : Hid (∀ W, Below W3.heap.size W3 W → W.heap[GB]? = some (.cells #[.int .i64 g.a, .int .i64 g.b] 24 (0, 0))) := fun W hW => blk_below hW (blk_lt k1) k1
      clear k1 k2 k3
      refine wp_region_T (fun W => W.cell? ⟨GB, 0, none⟩ = some (.int .i64 g.a) ∧ W.cell? ⟨GB, 1, none⟩ = some (.int .i64 g.b) ∧ W.cell? ⟨gl, p, none⟩ = some (.int .i64 u) ∧ W.cell? ⟨gl, q, none⟩ = some (.int .i64 v)) (.q 0 (.q 1 (.q 2 (.q 3 (.q 4 (.q 5 (.q 6 (.q 7 (.q 8 (.q 9 (.q 10 (.q 11 (.q 12 (.q 13 (.q 14 (.e 15 (.e 16 (.q 17 .nil)))))))))))))))))) (by kernel_rfl) (by kernel_rfl) (by kernel_rfl) (HS.out _ (Below.refl _ _).drew).1 ?_
      have hdr : Below W3.heap.size W3 W3.drew := (Below.refl _ _).drew
      revert hdr
      generalize W3.drew = WD
      intro hdr
      repeat (first | (refine ordt_s (o := ?_) ?_ ?_ ?_; rotate_left 1; (focus ((simp only [zD, zE, zF]) <;> rfl)); (focus rfl); simp only [Act.put, zA, zB, zC]) | (refine ordt_q (o := ?_) (v := ?_) ?_ ?_ ?_ ?_; rotate_left 2; (focus ((simp only [zD, zE, zF]) <;> rfl)); (focus rfl); (focus (intro w' hS; (try dsimp only at hS); go_split_ands; go_simp; (try (with_reducible rfl)))); simp only [Act.put, zA, zB, zC]))
      refine ordt_e ?_
      (refine op_e (o := ?_) ?_ ?_ (fun K hK => ?_); rotate_left 1; (focus ((simp only [zD, zE, zF]) <;> rfl)); (focus rfl); go_simp)
      have hs4 : Sl (WD.alloc (.cells #[.int .i64 m1] 3)) (some ⟨WD.heap.size, 0, none⟩) [.int .i64 m1] := Sl.new WD _ _
      have hb4 := hdr.alloc hdr.size (.cells #[.int .i64 m1] 3)
      revert hs4 hb4
      generalize (WD.alloc (.cells #[.int .i64 m1] 3)) = W4
      intro hs4 hb4
      refine hK.out _ _ (HS.out _ hb4).1 ?_
      clear hK K
      have H4 := Lib.hid (And.intro hs4 hb4)
      clear hs4 hb4 hdr
      (try simp only [Act.put, zA, zB, zC])
      refine ordt_e ?_
      (refine op_e (o := ?_) ?_ ?_ (fun K hK => ?_); rotate_left 1; (focus ((simp only [zD, zE, zF]) <;> rfl)); (focus rfl))
      obtain ⟨q0, q1', q2'⟩ := HS.out _ H4.out.2
      obtain ⟨b4, o4, e4, hs4⟩ : ∃ b4 o4, (some ⟨WD.heap.size, 0, none⟩ : Option Addr) = some ⟨b4, o4, none⟩ ∧ ∀ (j : Nat) (v : Value), [Value.int .i64 m1][j]? = some v → W4.cell? ⟨b4, o4 + j, none⟩ = some v := by
        rcases H4.out.1 with h | ⟨b, o, e, h⟩
        · cases h
        · exact ⟨b, o, e, h⟩
      cases e4
      refine wp_appK (.tmp 21) (.tmp 36) rfl elem_int q1' rfl rfl (by simp) hs4 (by simp [Value.oneCell']) (by omega) (M + 1) rfl (ints (L ++ [m1])) (by rw [← ints_append]; rfl) (by unfold maxLen; omega) (by omega) (HB.out _ q2').2.2.2 ?_
      intro s6 c6 W5 ho6 hb6 hg6 hob6 hkp
      have n1 : GB ≠ gl := fun e => own_tyb q1' (HT.out _ H4.out.2) (by decide) (by rw [e]; rfl)
      have S5 : W5.cell? ⟨GB, 0, none⟩ = some (.int .i64 g.a) ∧ W5.cell? ⟨GB, 1, none⟩ = some (.int .i64 g.b) ∧ W5.cell? ⟨gl, p, none⟩ = some (.int .i64 u) ∧ W5.cell? ⟨gl, q, none⟩ = some (.int .i64 v) := by
        have hblk := hg6.block GB (blk_lt (HT.out _ H4.out.2)) (fun e => n1 (by simpa using e))
        have h2 := (blk_all (hblk.trans (HT.out _ H4.out.2))).1
        exact ⟨by simpa using h2 0, by simpa using h2 1, hkp p _ (ints_get HL.out.2.1), hkp q _ (ints_get HL.out.2.2)⟩
      refine hK.out _ _ S5 ?_
      clear hK K S5 hkp n1
      have H6 := Lib.hid (And.intro ho6 (q2'.trans hb6))
      clear ho6 hb6 hg6 hob6 q0 q1' q2' hs4
      (try simp only [Act.put, zA, zB, zC])
      repeat (first | (refine ordt_s (o := ?_) ?_ ?_ ?_; rotate_left 1; (focus ((simp only [zD, zE, zF]) <;> rfl)); (focus rfl); simp only [Act.put, zA, zB, zC]) | (refine ordt_q (o := ?_) (v := ?_) ?_ ?_ ?_ ?_; rotate_left 2; (focus ((simp only [zD, zE, zF]) <;> rfl)); (focus rfl); (focus (intro w' hS; (try dsimp only at hS); go_split_ands; go_simp; (try (with_reducible rfl)))); simp only [Act.put, zA, zB, zC]))
      refine ordt_nil ?_
      go_wp2_with fail
      go_roundw
      case rel => exact ⟨k + 1, s6, c6, by omega, by go_num, by rw [show F + (k + 1) = M + 1 by omega], by rw [HL.out.1, show F + (k + 1) = M + 1 by omega]; exact H6.out.1, H6.out.2⟩
      case measure => simp [intOf]; omega
    · obtain rfl : k = gs.length := by omega
      rw [List.take_length] at ho
      have H9 := Lib.hid (And.intro ho hbl)
      clear ho hbl
      go_wp2_with fail
      go_ret
      exact ⟨s3, c3, rfl, own_sl H9.out.1, (HB.out _ H9.out.2).2.2.1⟩

def TwoR (L xs : List Int) (k : Nat) (a b : Value) : Prop :=
  (k = 0 ∧ a = .int .i64 (-1) ∧ b = .int .i64 (-1)) ∨ (k = 1 ∧ (∃ a' : Nat, a' = 0 ∧ a = .int .i64 a') ∧ b = .int .i64 (-1)) ∨ (2 ≤ k ∧ ∃ a' b' : Nat, a = .int .i64 a' ∧ b = .int .i64 b' ∧ IsBest L xs k a' ∧ IsNext L xs k a' b')

theorem two_one_lt {L xs : List Int} (h : lvA L (xs.getD 1 0) < lvA L (xs.getD 0 0)) : IsBest L xs 2 1 ∧ IsNext L xs 2 1 0 :=
  ⟨⟨by omega, fun j hj => by obtain rfl : j = 0 := by omega
                             exact h, fun j h1 h2 => absurd h2 (by omega)⟩, ⟨by omega, by omega, fun j hj => absurd hj (by omega), fun j h1 h2 h3 => absurd h2 (by omega)⟩⟩

theorem two_one_ge {L xs : List Int} (h : ¬ lvA L (xs.getD 1 0) < lvA L (xs.getD 0 0)) : IsBest L xs 2 0 ∧ IsNext L xs 2 0 1 :=
  ⟨⟨by omega, fun j hj => absurd hj (by omega), fun j h1 h2 => by obtain rfl : j = 1 := by omega
                                                                  omega⟩, ⟨by omega, by omega, fun j hj h0 => absurd hj (by omega), fun j h1 h2 h3 => absurd h2 (by omega)⟩⟩

theorem two_a {L xs : List Int} {k a : Nat} {u v : Int} (h0 : lvA L (xs.getD a 0) = v ∧ k = 1 ∧ a = 0) (hu : lvA L (xs.getD k 0) = u) (h : u < v) : IsBest L xs (k + 1) k ∧ IsNext L xs (k + 1) k a := by
  obtain ⟨e0, rfl, rfl⟩ := h0
  exact two_one_lt (by omega)

theorem two_b {L xs : List Int} {k a : Nat} {u v : Int} (h0 : lvA L (xs.getD a 0) = v ∧ k = 1 ∧ a = 0) (hu : lvA L (xs.getD k 0) = u) (h : v ≤ u) : IsBest L xs (k + 1) a ∧ IsNext L xs (k + 1) a k := by
  obtain ⟨e0, rfl, rfl⟩ := h0
  exact two_one_ge (by omega)

theorem two_lt {L xs : List Int} {k a b : Nat} (h1 : IsBest L xs k a) (_h2 : IsNext L xs k a b) (h : lvA L (xs.getD k 0) < lvA L (xs.getD a 0)) : IsBest L xs (k + 1) k ∧ IsNext L xs (k + 1) k a := by
  have ha := h1.lt
  refine ⟨⟨by omega, fun j hj => ?_, fun j h1 h2 => absurd h2 (by omega)⟩, ⟨by omega, by omega, fun j hj _ => h1.lo j hj, fun j h3 h4 h5 => h1.hi j h3 (by omega)⟩⟩
  rcases Nat.lt_trichotomy j a with e | e | e
  · have := h1.lo j e; omega
  · subst e; exact h
  · have := h1.hi j e hj; omega

theorem two_best {L xs : List Int} {k a : Nat} (h1 : IsBest L xs k a) (h : ¬ lvA L (xs.getD k 0) < lvA L (xs.getD a 0)) : IsBest L xs (k + 1) a := by
  have ha := h1.lt
  refine ⟨by omega, h1.lo, fun j h2 h3 => ?_⟩
  by_cases e : j = k
  · subst e; omega
  · exact h1.hi j h2 (by omega)

theorem two_mid {L xs : List Int} {k a b : Nat} (ha : a < k) (h2 : IsNext L xs k a b) (h : lvA L (xs.getD k 0) < lvA L (xs.getD b 0)) : IsNext L xs (k + 1) a k := by
  refine ⟨by omega, by omega, fun j hj hja => ?_, fun j h1 h2 => absurd h2 (by omega)⟩
  rcases Nat.lt_trichotomy j b with e | e | e
  · have := h2.lo j e hja; omega
  · subst e; exact h
  · have := h2.hi j e hj hja; omega

theorem two_no {L xs : List Int} {k a b : Nat} (h2 : IsNext L xs k a b) (h : ¬ lvA L (xs.getD k 0) < lvA L (xs.getD b 0)) : IsNext L xs (k + 1) a b := by
  have hb := h2.lt
  refine ⟨by omega, h2.ne, h2.lo, fun j h3 h4 h5 => ?_⟩
  by_cases e : j = k
  · subst e; omega
  · exact h2.hi j h3 (by omega) h5

theorem two_c {L xs : List Int} {k a b : Nat} {u v s : Int} (h0 : lvA L (xs.getD a 0) = v ∧ lvA L (xs.getD b 0) = s ∧ IsBest L xs k a ∧ IsNext L xs k a b) (hu : lvA L (xs.getD k 0) = u) (h : u < v) : IsBest L xs (k + 1) k ∧ IsNext L xs (k + 1) k a := two_lt h0.2.2.1 h0.2.2.2 (by omega)

theorem two_d {L xs : List Int} {k a b : Nat} {u v s : Int} (h0 : lvA L (xs.getD a 0) = v ∧ lvA L (xs.getD b 0) = s ∧ IsBest L xs k a ∧ IsNext L xs k a b) (hu : lvA L (xs.getD k 0) = u) (h : v ≤ u) (h' : u < s) : IsBest L xs (k + 1) a ∧ IsNext L xs (k + 1) a k := ⟨two_best h0.2.2.1 (by omega), two_mid h0.2.2.1.lt h0.2.2.2 (by omega)⟩

theorem two_e {L xs : List Int} {k a b : Nat} {u v s : Int} (h0 : lvA L (xs.getD a 0) = v ∧ lvA L (xs.getD b 0) = s ∧ IsBest L xs k a ∧ IsNext L xs k a b) (hu : lvA L (xs.getD k 0) = u) (h : v ≤ u) (h' : s ≤ u) : IsBest L xs (k + 1) a ∧ IsNext L xs (k + 1) a b := ⟨two_best h0.2.2.1 (by omega), two_no h0.2.2.2 (by omega)⟩

theorem Sl.arr {w : World} {s : Option Addr} {xs : List Int} (h : Sl w s (ints xs)) (hn : 0 < xs.length) : ∃ b off, s = some ⟨b, off, none⟩ ∧ ∀ (j : Nat) (x : Int), xs[j]? = some x → w.cell? ⟨b, off + j, none⟩ = some (.int .i64 x) := by
  rcases h with h | ⟨b, off, e, h⟩
  · have := congrArg List.length h
    rw [ints_length] at this
    simp at this
    subst this
    simp at hn
  · exact ⟨b, off, e, fun j x hx => h j _ (ints_get hx)⟩

set_option maxRecDepth 100000 in
set_option maxHeartbeats 3200000 in
theorem l19Two_any (L xs : List Int) (V n : Nat) (sL sx : Option Addr) (cL cx : Nat) (w : World) (hL : Sl w sL (ints L)) (hx : Sl w sx (ints xs)) (hV : L.length = V) (hn : xs.length = n) (hV2 : V ≤ 200) (hn2 : n ≤ 1000) (h2 : 2 ≤ n) (hb : ∀ x ∈ xs, 0 ≤ x ∧ x / 2 < V) :
    Calls Try.prog 83 #[.slice sL V cL, .slice sx n cx] w fun e w' => ∃ a b : Nat, e = .returned (.tuple #[.int .i64 a, .int .i64 b]) ∧ IsBest L xs n a ∧ IsNext L xs n a b ∧ Drew w w' := by
  have hV0 : 0 < V := by
    obtain ⟨x, hx⟩ := get_of_lt (l := xs) (k := 0) (by omega)
    have := hb x (List.mem_of_getElem? hx)
    omega
  obtain ⟨bx, ox, rfl, zx⟩ := hx.arr (by omega)
  obtain ⟨bL, oL, rfl, zL⟩ := hL.arr (by omega)
  have HS : Hid (∀ W, Drew w W → (∀ (j : Nat) (x : Int), xs[j]? = some x → W.cell? ⟨bx, ox + j, none⟩ = some (.int .i64 x)) ∧ (∀ (j : Nat) (x : Int), L[j]? = some x → W.cell? ⟨bL, oL + j, none⟩ = some (.int .i64 x))) := fun W hW => ⟨fun j x h => (hW.cell _).trans (zx j x h), fun j x h => (hW.cell _).trans (zL j x h)⟩
  have HH := Lib.hid (And.intro hn (And.intro hV hb))
  have HG : Hid (∀ (k : Nat) (W : World), Drew w W → k < n → ∃ (x : Int) (p : Nat) (u : Int), W.cell? ⟨bx, ox + k, none⟩ = some (.int .i64 x) ∧ x.tdiv 2 = p ∧ IntKind.i64.wrap (p : Int) = p ∧ p < V ∧ W.cell? ⟨bL, oL + p, none⟩ = some (.int .i64 u) ∧ lvA L (xs.getD k 0) = u) := fun k W hW hk => by
    obtain ⟨x, hxk⟩ := get_of_lt (l := xs) (k := k) (by rw [hn]; exact hk)
    obtain ⟨x0, x1⟩ := hb x (List.mem_of_getElem? hxk)
    obtain ⟨p, hp⟩ : ∃ p : Nat, x / 2 = p := ⟨(x / 2).toNat, by omega⟩
    obtain ⟨u, hu⟩ := get_of_lt (l := L) (k := p) (by omega)
    exact ⟨x, p, u, (HS.out W hW).1 k x hxk, by rw [Int.tdiv_eq_ediv_of_nonneg x0]; exact hp, IntWalk.i64_in _ ⟨by omega, by omega⟩, by omega, (HS.out W hW).2 p u hu, by unfold lvA; rw [List.getD_eq_getElem?_getD (l := xs), hxk, Option.getD_some, hp, Int.toNat_natCast, List.getD_eq_getElem?_getD, hu]; rfl⟩
  clear zx zL hL hx hn hV hb
  go_enter Try.func83, Try.ntmps83
  go_wp2_with fail
  go_loopw [8, 6, 7] (fun i a b wr => ∃ k : Nat, k ≤ n ∧ i = .int .i64 k ∧ TwoR L xs k a b ∧ Drew w wr) (fun i _ _ _ => n - (intOf i).toNat)
  case atStart => exact ⟨0, Nat.zero_le _, rfl, .inl ⟨rfl, rfl, rfl⟩, Drew.refl _⟩
  case round =>
    obtain ⟨k, hk, rfl, hr, hd⟩ := hrel
    have HD := Lib.hid hd
    clear hd
    by_cases hlt : k < n
    · obtain ⟨x, p, u, z1, tx, wx, hpV, z2, g1⟩ := HG.out k _ HD.out hlt
      have HX := Lib.hid g1
      clear g1
      rcases hr with ⟨hk0, rfl, rfl⟩ | ⟨hk1, ⟨a, ha0, rfl⟩, rfl⟩ | ⟨hk2, a, b, rfl, rfl, hba, hnb⟩
      · have HK := Lib.hid hk0
        clear hk0
        go_wp2_with fail
        go_roundw
        case rel => exact ⟨k + 1, by omega, by go_num, .inr (.inl ⟨by rw [HK.out], ⟨k, HK.out, rfl⟩, rfl⟩), HD.out⟩
        case measure => simp [intOf]; omega
      · obtain ⟨y, q, v, z3, ty, wy, hqV, z4, g2⟩ := HG.out a _ HD.out (by omega)
        have na : ¬ ((a : Int) < 0) := by omega
        have han : a < n := by omega
        have HY := Lib.hid (And.intro g2 (And.intro hk1 ha0))
        clear g2 hk1 ha0
        go_upto_region 7 with fail
        go_wp2_with fail
        all_goals go_roundw
        all_goals first
          | (simp [intOf]; omega)
          | exact ⟨k + 1, by omega, by go_num, .inr (.inr ⟨by have := HY.out; omega, k, a, rfl, rfl, two_a HY.out HX.out (by assumption)⟩), HD.out⟩
          | exact ⟨k + 1, by omega, by go_num, .inr (.inr ⟨by have := HY.out; omega, a, k, rfl, rfl, two_b HY.out HX.out (by assumption)⟩), HD.out⟩
      · have han := hba.lt
        have hbn := hnb.lt
        obtain ⟨y, q, v, z3, ty, wy, hqV, z4, g2⟩ := HG.out a _ HD.out (by omega)
        obtain ⟨z, r, s, z5, tz, wz, hrV, z6, g3⟩ := HG.out b _ HD.out (by omega)
        have na : ¬ ((a : Int) < 0) := by omega
        have nb : ¬ ((b : Int) < 0) := by omega
        have HY := Lib.hid (And.intro g2 (And.intro g3 (And.intro hba hnb)))
        clear g2 g3 hba hnb
        go_upto_region 7 with fail
        go_wp2_with fail
        all_goals go_roundw
        all_goals first
          | (simp [intOf]; omega)
          | exact ⟨k + 1, by omega, by go_num, .inr (.inr ⟨by omega, k, a, rfl, rfl, two_c HY.out HX.out (by assumption)⟩), HD.out⟩
          | exact ⟨k + 1, by omega, by go_num, .inr (.inr ⟨by omega, a, k, rfl, rfl, two_d HY.out HX.out (by assumption) (by assumption)⟩), HD.out⟩
          | exact ⟨k + 1, by omega, by go_num, .inr (.inr ⟨by omega, a, b, rfl, rfl, two_e HY.out HX.out (by assumption) (by assumption)⟩), HD.out⟩
    · obtain rfl : k = n := by omega
      rcases hr with ⟨rfl, _⟩ | ⟨rfl, _⟩ | ⟨hk2, a, b, rfl, rfl, hba, hnb⟩
      · omega
      · omega
      · have HY := Lib.hid (And.intro hba hnb)
        clear hba hnb
        go_wp2_with fail
        exact bodyPost_ret (v := .tuple #[.int .i64 a, .int .i64 b]) (by simp [results, Try.results83, go_sem]) rfl ⟨a, b, rfl, HY.out.1, HY.out.2, HD.out⟩

end Go.Proofs.Ytjecchljhdfjdaa
