import Derived.Test.YtindndcdpnpcmaaP1
import Derived.Test.YtindndcdpnpcmaaA6
import Derived.Laws.OwnMore
import Derived.Deep.DeepCutAuto
namespace Go.Proofs.Ytindndcdpnpcmaa
set_option linter.unusedVariables false
set_option linter.unusedSimpArgs false
open Go.RowKit

/-! How often variables are used. -/

def cntL (L : List Int) (v : Int) : Nat := (L.filter fun x => decide (x / 2 = v)).length
def glits (gs : List Gt) : List Int := gs.flatMap fun g => [g.a, g.b]
def Cir.usesI (c : Cir) : List Int := glits c.gates ++ (c.next ++ c.outs)
theorem cntL_append (A B : List Int) (v : Int) : cntL (A ++ B) v = cntL A v + cntL B v := by simp [cntL]
theorem cntL_one (x v : Int) : cntL [x] v = if x / 2 = v then 1 else 0 := by
  by_cases h : x / 2 = v <;> simp [cntL, h]
theorem cntL_le (L : List Int) (v : Int) : cntL L v ≤ L.length := List.length_filter_le _ _
theorem glits_snoc {gs : List Gt} {k : Nat} {g : Gt} (h : gs[k]? = some g) : glits (gs.take (k + 1)) = glits (gs.take k) ++ [g.a] ++ [g.b] := by
  rw [List.take_add_one, h]; simp [glits]
theorem glits_length (gs : List Gt) : (glits gs).length = 2 * gs.length := by
  induction gs with
  | nil => rfl
  | cons g gs ih => simp [glits] at ih ⊢; omega
def cnts (L : List Int) (n : Nat) : List Int := (List.range n).map fun (i : Nat) => ((cntL L (i : Int) : Nat) : Int)
theorem cnts_length (L : List Int) (n : Nat) : (cnts L n).length = n := by simp [cnts]
theorem cnts_get {L : List Int} {n p : Nat} (h : p < n) : (cnts L n)[p]? = some ((cntL L (p : Int) : Nat) : Int) := by simp [cnts, h]
theorem cnts_nil (n : Nat) : cnts [] n = List.replicate n 0 := by
  apply List.ext_getElem?
  intro i
  by_cases h : i < n
  · rw [cnts_get h]; simp [h, cntL]
  · rw [List.getElem?_eq_none (by rw [cnts_length]; omega), List.getElem?_eq_none (by simp; omega)]
theorem cnts_snoc {L : List Int} {n p : Nat} {x : Int} (hx : x / 2 = (p : Int)) (hp : p < n) : cnts (L ++ [x]) n = (cnts L n).set p ((cntL L (p : Int) : Int) + 1) := by
  apply List.ext_getElem?
  intro i
  by_cases h : i < n
  · rw [cnts_get h]
    by_cases e : i = p
    · subst e
      rw [List.getElem?_set_self (by rw [cnts_length]; exact h), cntL_append, cntL_one, if_pos hx]; simp
    · rw [List.getElem?_set_ne (Ne.symm e), cnts_get h, cntL_append, cntL_one, if_neg (by omega)]; simp
  · rw [List.getElem?_eq_none (by rw [cnts_length]; omega), List.getElem?_eq_none (by rw [List.length_set, cnts_length]; omega)]

theorem ints_set (xs : List Int) (p : Nat) (v : Int) : (ints xs).toArray.setIfInBounds p (.int .i64 v) = (ints (xs.set p v)).toArray := by
  apply Array.ext'
  simp [ints, List.map_set]
theorem ints_cell {w : World} {g p : Nat} {xs : List Int} {t : TypeId} {x : Int} (h : w.heap[g]? = some (.cells (ints xs).toArray t (0, 0))) (hx : xs[p]? = some x) : w.cell? ⟨g, p, none⟩ = some (.int .i64 x) := by
  rw [blk_cell h]; simpa using ints_get hx
theorem ints_blk_set {w : World} {g : Nat} {xs : List Int} {t : TypeId} (h : w.heap[g]? = some (.cells (ints xs).toArray t (0, 0))) (p : Nat) (v : Int) : (w.setCell ⟨g, p, none⟩ (.int .i64 v)).heap[g]? = some (.cells (ints (xs.set p v)).toArray t (0, 0)) := by
  rw [← ints_set]; exact blk_set h

theorem mkInts (w : World) (n : Nat) (h : n ≤ 1048576) : (Instr.makeSlice 22 (.int .i64 (n : Int)) (.int .i64 (n : Int))).run Try.prog w = .ok (.slice (some ⟨w.heap.size, 0, none⟩) n n) (w.alloc (.cells (ints (List.replicate n 0)).toArray 3)) := by
  obtain ⟨i, hi, h1, h2, h3⟩ := info_parts (P := Try.prog) (e := 3) (z := .int .i64 0) (size := 1) (bytes := 8) (by kernel_rfl)
  have := run_make (P := Try.prog) w 22 3 i (.int .i64 0) (by kernel_rfl) hi h1 .i64 .i64 n n (by omega) (by omega) (by rw [h3]; omega) (by omega)
  rw [this, h2]
  have e : madeCells #[Value.int .i64 0] n = (ints (List.replicate n 0)).toArray := by
    apply Array.ext'
    rw [toList_madeCells_one]; simp [ints]
  simp [Value.cells, e]

theorem valid_gate {c : Cir} (h : c.valid) {k : Nat} {g : Gt} (hg : c.gates[k]? = some g) : (0 ≤ g.a ∧ g.a / 2 < c.first + k) ∧ 0 ≤ g.b ∧ g.b / 2 < c.first + k := by
  have := gatesP_at h.gates hg
  unfold litP at this; omega
theorem valid_first {c : Cir} (h : c.valid) : 1 ≤ c.first ∧ c.first ≤ 8 ∧ c.vars = c.first + c.gates.length ∧ c.gates.length ≤ 14 := by
  have := h.lim
  unfold Cir.limits at this
  unfold Cir.first Cir.vars; omega

set_option maxHeartbeats 1600000 in
theorem uses_any (b : Nat) (sn sg so : Option Addr) (cn cg co : Nat) (c : Cir) (w : World) (h : CirAt w b c.inp (.slice sn c.next.length cn) (.slice sg c.gates.length cg) (.slice so c.outs.length co))
    (hn : Sl w sn (ints c.next)) (hg : Sl w sg (gcells c.gates)) (ho : Sl w so (ints c.outs)) (hv : c.valid) (V : Nat) (hV : c.vars = V) :
    Calls Try.prog 98 #[.pointer (some ⟨b, 0, none⟩)] w fun e w' => ∃ g, e = .returned (.slice (some ⟨g, 0, none⟩) V V) ∧ w.heap.size ≤ g ∧ w'.heap[g]? = some (.cells (ints (cnts c.usesI V)).toArray 3 (0, 0)) ∧ Below w.heap.size w w' := by
  have H := Lib.hid (And.intro h (And.intro hn (And.intro hg (And.intro ho hv))))
  have HB : Hid (b < w.heap.size) := World.block_lt_of_cell? w _ h.h0
  obtain ⟨f1, f2, f3, f4⟩ := valid_first hv
  have hlim := hv.lim
  obtain ⟨q1, q2, q3, q4, q5⟩ := hlim
  have HV : Hid (c.vars = V ∧ c.vars = c.first + c.gates.length ∧ c.first = 1 + c.inp + c.next.length) := ⟨hV, f3, rfl⟩
  have v1 : 1 ≤ V := by omega
  have v2 : V ≤ 22 := by omega
  obtain ⟨h0, h1, h2, h3⟩ := h
  have hmk := fun w => mkInts w V (by omega)
  clear hn hg ho hv hV f1 f2 f3 f4
  have e0 : 1 + c.inp + (c.next.length : Int) + (c.gates.length : Int) = (V : Int) := by have := HV.out; unfold Cir.first at this; omega
  have E0 := Lib.hid e0
  clear e0
  go_enter Try.func98, Try.ntmps98
  go_wp2_with (go_at_call 78; refine (vars_any _ _ _ _ _ _ _ _ _ _ H.out.1 (by omega) (by omega) (by omega)).mono ?_; rintro e w1 ⟨rfl, hd⟩; rw [E0.out]; have HD := Lib.hid hd; clear h0 h1 h2 h3; have h0 : w1.cell? ⟨b, 0, none⟩ = some (.int .i64 c.inp) := ((hd.below _).cell HB.out).trans H.out.1.h0; have h2 : w1.cell? ⟨b, 2, none⟩ = some (.slice sg c.gates.length cg) := ((hd.below _).cell HB.out).trans H.out.1.h2; have hbs : b < w1.heap.size := (Nat.lt_of_lt_of_le HB.out (hd.below w.heap.size).size); clear hd)
  clear hmk
  obtain ⟨G, hG⟩ : ∃ G, w1.heap.size = G := ⟨_, rfl⟩
  have HG : Hid (G = w.heap.size ∧ w1.heap.size = G) := ⟨by rw [← hG, HD.out.heap], hG⟩
  have hbA : Below G w (w1.alloc (.cells (ints (List.replicate V 0)).toArray 3)) := (HD.out.below _).alloc (by omega) _
  have hbN : (w1.alloc (.cells (ints (List.replicate V 0)).toArray 3)).heap[G]? = some (.cells (ints (List.replicate V 0)).toArray 3 (0, 0)) := by rw [← hG]; exact blk_new _ _
  rw [hG]
  rw [hG] at hbs
  clear hG h0 h2
  revert hbA hbN
  generalize (w1.alloc (.cells (ints (List.replicate V 0)).toArray 3)) = WA
  intro hbA hbN
  have HA := Lib.hid (And.intro hbA hbN)
  clear hbA hbN
  go_loopw [16] (fun i wr => ∃ k : Nat, k ≤ c.gates.length ∧ i = .int .i64 k ∧ wr.heap[G]? = some (.cells (ints (cnts (glits (c.gates.take k)) V)).toArray 3 (0, 0)) ∧ Below G w wr) (fun i _ => c.gates.length - (intOf i).toNat)
  case atStart => exact ⟨0, Nat.zero_le _, rfl, by rw [show glits (c.gates.take 0) = [] from by simp [glits], cnts_nil]; exact HA.out.2, HA.out.1⟩
  case round =>
    obtain ⟨k, hk, rfl, hbk, hbl⟩ := hrel
    have hblw : Below w.heap.size w wr := by rw [← HG.out.1]; exact hbl
    by_cases hlt : k < c.gates.length
    · obtain ⟨g, hg⟩ := get_of_lt hlt
      obtain ⟨gb, off, rfl, hbw, z1, z2⟩ := H.out.2.2.1.gate hblw hg
      obtain ⟨⟨a1, a2⟩, b1, b2⟩ := valid_gate H.out.2.2.2.2 hg
      obtain ⟨p, hp⟩ : ∃ p : Nat, g.a / 2 = p := ⟨(g.a / 2).toNat, by omega⟩
      obtain ⟨q, hq⟩ : ∃ q : Nat, g.b / 2 = q := ⟨(g.b / 2).toNat, by omega⟩
      have p2 : p < V := by have := HV.out; omega
      have q2 : q < V := by have := HV.out; omega
      have x1 := cntL_le (glits (c.gates.take k)) (p : Int)
      have x2 := cntL_le (glits (c.gates.take k) ++ [g.a]) (q : Int)
      simp only [List.length_append, glits_length, List.length_take, List.length_singleton] at x1 x2
      have hz : wr.cell? ⟨G, p, none⟩ = some (.int .i64 (cntL (glits (c.gates.take k)) (p : Int) : Int)) := ints_cell hbk (cnts_get p2)
      have hf : wr.frozen? ⟨G, p, none⟩ = false := blk_free hbk
      have hsz := blk_lt hbk
      have HR := Lib.hid (And.intro hbk (And.intro hbl (And.intro hg hq)))
      clear hbk hbl hg hq hblw
      go_upto_region 6 with fail
      clear hz hf
      obtain ⟨hbk, hbl, hg, hq⟩ := HR.out
      have hbk0 := ints_blk_set hbk p ((cntL (glits (c.gates.take k)) (p : Int) : Int) + 1)
      rw [← cnts_snoc hp p2] at hbk0
      have hbk' := blk_old (o := .cells #[.int .i64 g.a, .int .i64 g.b] 47) hbk0
      have hbl' := (hbl.setCell (p := ⟨G, p, none⟩) (Nat.le_refl _) (.int .i64 ((cntL (glits (c.gates.take k)) (p : Int) : Int) + 1))).alloc (by rw [size_set]; omega) (.cells #[.int .i64 g.a, .int .i64 g.b] 47)
      have hbn := blk_at (w := wr.setCell ⟨G, p, none⟩ (.int .i64 ((cntL (glits (c.gates.take k)) (p : Int) : Int) + 1))) (b := wr.heap.size) (o := .cells #[.int .i64 g.a, .int .i64 g.b] 47) (size_set _ _ _)
      clear hbk hbl hbk0
      revert hbk' hbl' hbn
      generalize (wr.setCell ⟨G, p, none⟩ (.int .i64 ((cntL (glits (c.gates.take k)) (p : Int) : Int) + 1))).alloc (.cells #[.int .i64 g.a, .int .i64 g.b] 47) = W2
      intro hbk hbl hbn
      have hz2 : W2.cell? ⟨G, q, none⟩ = some (.int .i64 (cntL (glits (c.gates.take k) ++ [g.a]) (q : Int) : Int)) := ints_cell hbk (cnts_get q2)
      have hf2 : W2.frozen? ⟨G, q, none⟩ = false := blk_free hbk
      have hg1 : W2.cell? ⟨wr.heap.size, 1, none⟩ = some (.int .i64 g.b) := blk_cell hbn
      have HR2 := Lib.hid (And.intro hbk (And.intro hbl (And.intro hg hq)))
      have hq' := hq
      clear hbk hbl hg hp hbn hq z1 z2
      go_wp2
      obtain ⟨hbk, hbl, hg, hq⟩ := HR2.out
      have hbk' := ints_blk_set hbk q ((cntL (glits (c.gates.take k) ++ [g.a]) (q : Int) : Int) + 1)
      rw [← cnts_snoc hq q2, ← glits_snoc hg] at hbk'
      go_roundw
      case rel => exact ⟨k + 1, by omega, by go_num, hbk', hbl.setCell (Nat.le_refl _) _⟩
      case measure => simp [intOf]; omega
    · obtain rfl : k = c.gates.length := by omega
      rw [List.take_length] at hbk
      have hC : CirAt wr b c.inp (.slice sn c.next.length cn) (.slice sg c.gates.length cg) (.slice so c.outs.length co) :=
        ⟨(hblw.cell HB.out).trans H.out.1.h0, (hblw.cell HB.out).trans H.out.1.h1, (hblw.cell HB.out).trans H.out.1.h2, (hblw.cell HB.out).trans H.out.1.h3⟩
      have HR := Lib.hid (And.intro hbk (And.intro hblw (And.intro hC hbl)))
      clear hbk hbl hC hblw
      go_wp2_with (go_at_call 107; refine (roots_any _ _ _ _ _ _ _ _ _ _ HR.out.2.2.1 (H.out.2.1.mono HR.out.2.1) (H.out.2.2.2.1.mono HR.out.2.1) (by omega) (by omega)).mono ?_; rintro e w2 ⟨s, cc, rfl, ho1, hb1⟩)
      rw [ints_append] at ho1
      have hl1 : (c.next ++ c.outs).length = c.next.length + c.outs.length := by simp
      rw [← hl1] at ho1
      have HS := Lib.hid (And.intro ho1 (And.intro (blk_below hb1 (blk_lt HR.out.1) HR.out.1) (HR.out.2.2.2.trans (hb1.mono (by have := HG.out; have := HR.out.2.1.size; omega)))))
      have hszr := blk_lt HR.out.1
      clear ho1 hb1
      go_loopw [40] (fun i wx => ∃ k : Nat, k ≤ c.next.length + c.outs.length ∧ i = .int .i64 k ∧ wx.heap[G]? = some (.cells (ints (cnts (glits c.gates ++ (c.next ++ c.outs).take k) V)).toArray 3 (0, 0)) ∧ Below G w wx ∧ Sl wx s (ints (c.next ++ c.outs))) (fun i _ => c.next.length + c.outs.length - (intOf i).toNat)
      case atStart => exact ⟨0, Nat.zero_le _, rfl, by simpa using HS.out.2.1, HS.out.2.2, own_sl HS.out.1⟩
      case round =>
        obtain ⟨k, hk, rfl, hbk, hbl, hsl⟩ := hrel
        by_cases hlt2 : k < c.next.length + c.outs.length
        · obtain ⟨x, hx⟩ := get_of_lt (l := c.next ++ c.outs) (k := k) (by simp; omega)
          obtain ⟨sb, soff, rfl, hsb, hz⟩ := hsl.int (Below.refl _ _) hx
          have hsb2 : G < sb := by
            rcases own_some HS.out.1 with ⟨e, _⟩ | ⟨g, e⟩
            · cases e
            · cases e
              have := (own_blk HS.out.1 (k := sb) rfl).1
              omega
          have hxv : 0 ≤ x ∧ x / 2 < V := by
            have h1 := (List.mem_append.1 (List.mem_of_getElem? hx)).elim (H.out.2.2.2.2.next x) (H.out.2.2.2.2.outs x)
            unfold litP at h1
            have := HV.out
            omega
          obtain ⟨p, hp⟩ : ∃ p : Nat, x / 2 = p := ⟨(x / 2).toNat, by omega⟩
          have p2 : p < V := by omega
          have x0 := hxv.1
          have x1 := cntL_le (glits c.gates ++ (c.next ++ c.outs).take k) (p : Int)
          simp only [List.length_append, glits_length, List.length_take] at x1
          have hz2 : wr.cell? ⟨G, p, none⟩ = some (.int .i64 (cntL (glits c.gates ++ (c.next ++ c.outs).take k) (p : Int) : Int)) := ints_cell hbk (cnts_get p2)
          have hf2 : wr.frozen? ⟨G, p, none⟩ = false := blk_free hbk
          have HR2 := Lib.hid (And.intro hbk (And.intro hbl (And.intro hx (And.intro hsl hp))))
          have hp' := hp
          clear hbk hbl hx hsl hxv hp
          go_wp2
          obtain ⟨hbk, hbl, hx, hsl, hp⟩ := HR2.out
          have hbk' := ints_blk_set hbk p ((cntL (glits c.gates ++ (c.next ++ c.outs).take k) (p : Int) : Int) + 1)
          rw [← cnts_snoc hp p2, List.append_assoc, show (c.next ++ c.outs).take k ++ [x] = (c.next ++ c.outs).take (k + 1) from by rw [List.take_add_one, hx]; rfl] at hbk'
          go_roundw
          case rel =>
            refine ⟨k + 1, by omega, by go_num, hbk', hbl.setCell (Nat.le_refl _) _, ?_⟩
            exact .inr ⟨sb, soff, rfl, fun j v hv => by
              rcases hsl with h0 | ⟨sb', so', e, h⟩
              · rw [h0] at hv; simp at hv
              · cases e
                rw [← h j v hv]
                exact World.cell?_setCell_other _ _ _ _ (by intro e; have := congrArg Addr.block e; simp at this; omega)⟩
          case measure => simp [intOf]; omega
        · obtain rfl : k = c.next.length + c.outs.length := by omega
          rw [← hl1, List.take_length] at hbk
          have HF := Lib.hid (And.intro hbk hbl)
          clear hbk hbl hsl
          go_wp2
          go_ret
          exact ⟨G, rfl, by have := HG.out; omega, HF.out.1, by rw [← HG.out.1]; exact HF.out.2⟩

end Go.Proofs.Ytindndcdpnpcmaa
