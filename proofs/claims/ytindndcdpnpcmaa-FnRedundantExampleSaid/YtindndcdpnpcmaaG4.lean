import Derived.Test.YtindndcdpnpcmaaG3
import Derived.Test.YtindndcdpnpcmaaA4
import Derived.Test.YtindndcdpnpcmaaL4
import Derived.Test.YtindndcdpnpcmaaR1
namespace Go.Proofs.Ytindndcdpnpcmaa
set_option linter.unusedVariables false
set_option linter.unusedSimpArgs false
open Go.RowKit

/-! l3Map, l18Force, ForceGate of the reference. -/

theorem xor_even (q : Nat) (hq : q ≤ 30) (b : Int) (hb : b = 0 ∨ b = 1) : bits .xor .i64 (2 * (q : Int)) b = 2 * (q : Int) + b := by
  have h0 : ∀ q : Fin 31, bits .xor .i64 (2 * ((q.val : Nat) : Int)) 0 = 2 * ((q.val : Nat) : Int) + 0 := by decide +kernel
  have h1 : ∀ q : Fin 31, bits .xor .i64 (2 * ((q.val : Nat) : Int)) 1 = 2 * ((q.val : Nat) : Int) + 1 := by decide +kernel
  rcases hb with rfl | rfl
  · exact h0 ⟨q, by omega⟩
  · exact h1 ⟨q, by omega⟩
def evL (k : Nat) : List Int := (List.range k).map fun (i : Nat) => 2 * (i : Int)
theorem evL_length (k : Nat) : (evL k).length = k := by simp [evL]
theorem evL_succ (k : Nat) : evL (k + 1) = evL k ++ [2 * (k : Int)] := by simp [evL, List.range_succ]
def mL (V p : Nat) (val : Bool) : List Int := (evL V).set p (if val then 1 else 0)
theorem mL_length (V p : Nat) (val : Bool) : (mL V p val).length = V := by simp [mL, evL_length]
theorem mL_get {V p q : Nat} {val : Bool} (h : q < V) : (mL V p val)[q]? = some (if q = p then (if val then 1 else 0) else 2 * (q : Int)) := by
  unfold mL
  by_cases e : q = p
  · subst e
    rw [List.getElem?_set_self (by rw [evL_length]; exact h), if_pos rfl]
  · rw [List.getElem?_set_ne (Ne.symm e), if_neg e]
    simp [evL, h]

theorem l3Map_any (s : Option Addr) (cap V p : Nat) (val : Bool) (l : Int) (w : World) (h : Sl w s (ints (mL V p val))) (h0 : 0 ≤ l) (h1 : l / 2 < V) (hV : V ≤ 22) :
    Calls Try.prog 69 #[.slice s V cap, .int .i64 l] w fun e w' => e = .returned (.int .i64 (forceL p val l)) ∧ w = w' := by
  obtain ⟨q, hq⟩ : ∃ q : Nat, l / 2 = q := ⟨(l / 2).toNat, by omega⟩
  have q2 : q < V := by omega
  obtain ⟨b, off, rfl, hbw, hz⟩ := h.int (Below.refl _ _) (mL_get (p := p) (val := val) q2)
  have hx : bits .xor .i64 (if q = p then (if val then 1 else 0) else 2 * (q : Int)) (l % 2) = forceL p val l := by
    have hb : l % 2 = 0 ∨ l % 2 = 1 := by omega
    unfold forceL
    rw [hq]
    by_cases e : q = p
    · have e' : (q : Int) = (p : Int) := by rw [e]
      rw [if_pos e, if_pos e']
      cases val
      · rcases hb with e | e <;> rw [e] <;> decide
      · rcases hb with e | e <;> rw [e] <;> decide
    · rw [if_neg e, if_neg (by omega), xor_even q (by omega) _ hb]; omega
  obtain ⟨x, hxx⟩ : ∃ x, x = (if q = p then (if val then (1 : Int) else 0) else 2 * (q : Int)) := ⟨_, rfl⟩
  rw [← hxx] at hx hz
  have H := Lib.hid (And.intro h hxx)
  have HX := Lib.hid hx
  clear h hxx hx h1
  go_enter Try.func69, Try.ntmps69
  go_wp2
  go_ret
  exact ⟨ret_int HX.out, rfl⟩

set_option maxRecDepth 100000 in
set_option maxHeartbeats 6400000 in
theorem l18Force_any (v : Value) (c : Cir) (p : Nat) (val : Bool) (w : World) (h : CirV w v c) (hv : c.valid) (hp : (p : Int) < c.vars) :
    Calls Try.prog 105 #[v, .int .i64 p, .bool val] w fun e w' => ∃ vn vg vo, e = .returned (.agg #[.int .i64 c.inp, vn, vg, vo]) ∧ CirOwn w' w.heap.size (c.mapC (forceL p val)) vn vg vo ∧ Below w.heap.size w w' := by
  have HC : Hid (∀ w', Below w.heap.size w w' → CirV w' v c) := fun w' hb => h.mono hb
  obtain ⟨sn, cn, sg, cg, so, co, rfl, h1, h2, h3, hl1, hl2, hl3⟩ := h
  have hL : Below w.heap.size w (((w.alloc (.cells #[.int .i64 c.inp, .slice sn c.next.length cn, .slice sg c.gates.length cg, .slice so c.outs.length co] 29)).alloc (.cells #[.int .i64 0, .slice none 0 0, .slice none 0 0, .slice none 0 0] 29)).alloc (.cells #[] 3)) := by go_grown
  have hK := blk3 w (.cells #[.int .i64 c.inp, .slice sn c.next.length cn, .slice sg c.gates.length cg, .slice so c.outs.length co] 29) (.cells #[.int .i64 0, .slice none 0 0, .slice none 0 0, .slice none 0 0] 29) (.cells #[] 3)
  obtain ⟨f1, f2, f3, f4⟩ := valid_first hv
  obtain ⟨q1, q2, q3, q4, q5⟩ := id hv.lim
  have eC : c.first = 1 + c.inp + c.next.length := rfl
  obtain ⟨F, hF⟩ : ∃ F : Nat, c.first = F := ⟨c.first.toNat, by omega⟩
  obtain ⟨V, hV⟩ : ∃ V : Nat, c.vars = V := ⟨c.vars.toNat, by omega⟩
  have e1 : 1 + c.inp + (c.next.length : Int) = (F : Int) := by omega
  have E1 := Lib.hid e1
  have w1' : IntKind.i64.wrap ((F : Int) + (c.gates.length : Int)) = (V : Int) := by rw [IntWalk.i64_in _ ⟨by omega, by omega⟩]; omega
  have v22 : V ≤ 22 := by omega
  have f8 : F ≤ 8 := by omega
  have hpV : p < V := by omega
  have H := Lib.hid (And.intro h1 (And.intro h2 (And.intro h3 hv)))
  have HVV := Lib.hid hV
  have HL := Lib.hid (And.intro hL hK)
  clear h1 h2 h3 hv hL hK f1 f2 f3 f4 eC hF hV e1 hp
  go_enter Try.func105, Try.ntmps105
  go_wp2_with fail
  revert HL
  generalize (((w.alloc (.cells #[.int .i64 c.inp, .slice sn c.next.length cn, .slice sg c.gates.length cg, .slice so c.outs.length co] 29)).alloc (.cells #[.int .i64 0, .slice none 0 0, .slice none 0 0, .slice none 0 0] 29)).alloc (.cells #[] 3)) = WA
  intro HL
  go_loopw [8, 7] (fun i x wr => ∃ (k : Nat) (s : Option Addr) (cc : Nat), k ≤ V ∧ i = .int .i64 k ∧ x = .slice s k cc ∧ wr.ownsRow (w.heap.size + 2) 3 1 x k (ints (evL k)) ∧ Below (w.heap.size + 2) WA wr) (fun i _ _ => V - (intOf i).toNat)
  case atStart => exact ⟨0, _, _, Nat.zero_le _, rfl, rfl, own_of_blk (n := 0) (cur := #[]) HL.out.2.2.2.1 (Nat.le_refl _) (by simp) (by unfold maxLen; omega), Below.refl _ _⟩
  case round =>
    obtain ⟨k, s, cc, hk, rfl, rfl, ho, hbl⟩ := hrel
    have hbox := blk_below hbl (by omega) HL.out.2.1
    have hsz : w.heap.size + 3 ≤ wr.heap.size := by have h1 := hbl.size; have h2 := HL.out.2.2.2.2; omega
    have hlb := blk_lt hbox
    have HR := Lib.hid (And.intro ho (And.intro hbl hbox))
    clear ho hbl hbox
    go_upto_region 3 with fail
    go_cut [21] from 14 to 21 (fun s21 wx => s21 = .bool (decide ((k : Int) < (V : Int))) ∧ Below wr.heap.size wr wx)
    case first =>
      refine wp_region_ord (fun w' => ∀ o, w'.cell? ⟨w.heap.size, o, none⟩ = #[Value.int .i64 c.inp, Value.slice sn c.next.length cn, Value.slice sg c.gates.length cg, Value.slice so c.outs.length co][o]?) ((0, false) :: (1, false) :: (3, false) :: (4, false) :: (5, false) :: (2, true) :: (6, false) :: (7, false) :: []) (by kernel_rfl) (by kernel_rfl) (by kernel_rfl) (by kernel_rfl) (blk_all HR.out.2.2).1 ?_
      repeat (first | (refine ord_es (o := ?_) ?_ ?_ (by assumption) ?_; rotate_left 1; (focus ((simp only [List.getElem?_toArray, List.getElem?_cons_succ, List.getElem?_cons_zero]) <;> rfl)); (focus rfl); simp only [Act.put, List.setIfInBounds_toArray, List.set_cons_zero, List.set_cons_succ]) | (refine ord_s (o := ?_) ?_ ?_ ?_; rotate_left 1; (focus ((simp only [List.getElem?_toArray, List.getElem?_cons_succ, List.getElem?_cons_zero]) <;> rfl)); (focus rfl); simp only [Act.put, List.setIfInBounds_toArray, List.set_cons_zero, List.set_cons_succ]) | (refine ord_q (o := ?_) (v := ?_) ?_ ?_ ?_ ?_; rotate_left 2; (focus ((simp only [List.getElem?_toArray, List.getElem?_cons_succ, List.getElem?_cons_zero]) <;> rfl)); (focus rfl); (focus (intro w' hS; (try dsimp only at hS); go_split_ands; go_simp; (try (with_reducible rfl)))); simp only [Act.put, List.setIfInBounds_toArray, List.set_cons_zero, List.set_cons_succ]))
      (refine ord_e (o := ?_) ?_ ?_ (fun K hK => ?_); rotate_left 1; (focus ((simp only [List.getElem?_toArray, List.getElem?_cons_succ, List.getElem?_cons_zero]) <;> rfl)); (focus rfl); go_simp)
      refine (l1First_any _ _ _ _ _ _ _ (by omega) (by omega)).mono ?_
      rintro e w2 ⟨rfl, hq⟩
      rw [E1.out]
      have hb2 : Below wr.heap.size wr w2 := (Below.refl _ _).drew.trans hq
      refine hK.out _ _ (blk_all (blk_below hb2 hlb HR.out.2.2)).1 ?_
      clear hK K hq
      have H2 := Lib.hid hb2
      clear hb2
      (try simp only [Act.put, List.setIfInBounds_toArray, List.set_cons_zero, List.set_cons_succ])
      repeat (first | (refine ord_es (o := ?_) ?_ ?_ (by assumption) ?_; rotate_left 1; (focus ((simp only [List.getElem?_toArray, List.getElem?_cons_succ, List.getElem?_cons_zero]) <;> rfl)); (focus rfl); simp only [Act.put, List.setIfInBounds_toArray, List.set_cons_zero, List.set_cons_succ]) | (refine ord_s (o := ?_) ?_ ?_ ?_; rotate_left 1; (focus ((simp only [List.getElem?_toArray, List.getElem?_cons_succ, List.getElem?_cons_zero]) <;> rfl)); (focus rfl); simp only [Act.put, List.setIfInBounds_toArray, List.set_cons_zero, List.set_cons_succ]) | (refine ord_q (o := ?_) (v := ?_) ?_ ?_ ?_ ?_; rotate_left 2; (focus ((simp only [List.getElem?_toArray, List.getElem?_cons_succ, List.getElem?_cons_zero]) <;> rfl)); (focus rfl); (focus (intro w' hS; (try dsimp only at hS); go_split_ands; go_simp; (try (with_reducible rfl)))); simp only [Act.put, List.setIfInBounds_toArray, List.set_cons_zero, List.set_cons_succ]))
      refine ord_nil ?_
      go_wp2_with fail
      go_meet
      exact ⟨by simp, H2.out⟩
    case rest =>
      obtain ⟨rfl, hb2⟩ := hcut
      have HX := Lib.hid (And.intro (own_below HR.out.1 hb2) (And.intro (HR.out.2.1.trans (hb2.mono (by omega))) (show w.heap.size + 3 ≤ wc.heap.size from Nat.le_trans hsz hb2.size)))
      have hcs := HX.out.2.2
      clear hb2 w1'
      by_cases hlt : (k : Int) < (V : Int)
      · rw [decide_eq_true hlt]
        go_wp2_with (at_builtin; refine wpl_app rfl _ _ rfl elem_int (own_below HX.out.1 ((Below.refl _ _).alloc (Nat.le_refl _) _)) rfl rfl rfl (Sl.new _ _ _) (by simp [Value.oneCell']) (k + 1) rfl (ints (evL (k + 1))) (by rw [evL_succ, ← ints_append]; rfl) (by unfold maxLen; omega) (by omega) (by simp; omega) ?_; intro s6 c6 w6 h6 hb6 _ _; have HA := Lib.hid (And.intro h6 hb6); clear h6 hb6)
        go_roundw
        case rel => exact ⟨k + 1, s6, c6, by omega, by go_num, rfl, HA.out.1, (HX.out.2.1.alloc (by omega) _).trans HA.out.2⟩
        case measure => simp [intOf]; omega
      · rw [decide_eq_false hlt]
        obtain rfl : V = k := by omega
        obtain ⟨gm, rfl⟩ : ∃ g, s = some ⟨g, 0, none⟩ := by
          rcases own_some HX.out.1 with ⟨_, e, _⟩ | ⟨g, e⟩
          · omega
          · exact ⟨g, e⟩
        obtain ⟨y, hy⟩ := get_of_lt (l := evL V) (k := p) (by rw [evL_length]; exact hpV)
        have hc1 : wc.cell? ⟨gm, p, none⟩ = some (.int .i64 y) := (HX.out.1.cellAt p (by omega)).trans (ints_get hy)
        have hf1 : wc.frozen? ⟨gm, p, none⟩ = false := HX.out.1.frozenAt p
        obtain ⟨hst1, hgr1⟩ := HX.out.1.stored p (.int .i64 0)
        have hb1 := HX.out.2.1.grown hgr1 (by omega) (fun q hq => (own_blk HX.out.1 hq).1)
        have hc2 : (wc.setCell ⟨gm, p, none⟩ (.int .i64 0)).cell? ⟨gm, p, none⟩ = some (.int .i64 0) := (hst1.cellAt p (by omega)).trans (by rw [List.getElem?_set_self (by rw [ints_length, evL_length]; exact hpV)])
        have hf2 : (wc.setCell ⟨gm, p, none⟩ (.int .i64 0)).frozen? ⟨gm, p, none⟩ = false := hst1.frozenAt p
        obtain ⟨hst2, hgr2⟩ := hst1.stored p (.int .i64 1)
        have hb2 := hb1.grown hgr2 (by rw [size_set]; omega) (fun q hq => (own_blk hst1 hq).1)
        have i1 : (ints (evL V)).set p (.int .i64 0) = ints (mL V p false) := by unfold mL ints; rw [List.map_set]; rfl
        have i2 : ((ints (evL V)).set p (.int .i64 0)).set p (.int .i64 1) = ints (mL V p true) := by unfold mL ints; rw [List.set_set, List.map_set]; rfl
        rw [i1] at hst1
        rw [i2] at hst2
        have HS1 := Lib.hid (And.intro hst1 hb1)
        have HS2 := Lib.hid (And.intro hst2 hb2)
        clear hst1 hgr1 hb1 hst2 hgr2 hb2 hy i1 i2
        obtain ⟨f, hf⟩ : ∃ f, f = forceL p val := ⟨_, rfl⟩
        have HFF := Lib.hid hf
        clear hf
        cases val
        case' false =>
          go_upto_region 9 with fail
          have hst := HS1.out.1
          have hb := HS1.out.2
          clear hc1 hf1 hc2 hf2 HS1 HS2
          revert hst hb
          generalize wc.setCell ⟨gm, p, none⟩ (.int .i64 0) = WM
          intro hst hb
        case' true =>
          go_upto_region 9 with fail
          have hst := HS2.out.1
          have hb := HS2.out.2
          clear hc1 hf1 hc2 hf2 HS1 HS2
          revert hst hb
          generalize (wc.setCell ⟨gm, p, none⟩ (.int .i64 0)).setCell ⟨gm, p, none⟩ (.int .i64 1) = WM
          intro hst hb
        all_goals
          have hbox := blk_below hb (by omega) HL.out.2.1
          have hres := blk_below hb (by omega) HL.out.2.2.1
          have hbw := HL.out.1.trans (hb.mono (by omega))
          have cb := (blk_all hbox).1
          have hlb2 := blk_lt hbox
          have hlr := blk_lt hres
          have hgm := (own_blk hst rfl).2
          have hsm := own_sl hst
          have HM0 := Lib.hid (And.intro hbw (And.intro hbox (And.intro hres hsm)))
          clear hst hb hbox hres hbw hsm
          go_wp2_with fail
          obtain ⟨B, hB⟩ : ∃ B, WM.heap.size = B := ⟨_, rfl⟩
          have hb3 : Below B WM (WM.alloc (.cells #[.int .i64 c.inp, .slice none 0 0, .slice none 0 0, .slice none 0 0] 29)) := by rw [← hB]; exact (Below.refl _ _).alloc (Nat.le_refl _) _
          have hn3 : (WM.alloc (.cells #[.int .i64 c.inp, .slice none 0 0, .slice none 0 0, .slice none 0 0] 29)).heap[B]? = some (.cells #[.int .i64 c.inp, .slice none 0 0, .slice none 0 0, .slice none 0 0] 29 (0, 0)) := by rw [← hB]; exact blk_new _ _
          clear cb
          rw [hB] at hlb2 hlr hgm ⊢
          revert hb3 hn3
          generalize WM.alloc (.cells #[.int .i64 c.inp, .slice none 0 0, .slice none 0 0, .slice none 0 0] 29) = W3
          intro hb3 hn3
          have hBw : w.heap.size < B := hlb2
          have hBr : w.heap.size + 1 < B := hlr
          have hW3 : OutC W3 B B c.inp [] [] [] (.slice none 0 0) (.slice none 0 0) (.slice none 0 0) := ⟨hn3, World.ownsRow_nil _ _ _ _, World.ownsRow_nil _ _ _ _, World.ownsRow_nil _ _ _ _, (fun k hk => by cases hk)⟩
          have HW3 := Lib.hid (And.intro (HM0.out.1.trans (hb3.mono (Nat.le_of_lt hBw))) (And.intro (blk_below hb3 hBw HM0.out.2.1) (And.intro hW3 (blk_below hb3 hBr HM0.out.2.2.1))))
          have HLM : Hid (∀ W (l : Int), Below B W3 W → 0 ≤ l → l / 2 < c.vars → Calls Try.prog 69 #[.slice (some ⟨gm, 0, none⟩) V cc, .int .i64 l] W fun e w' => e = .returned (.int .i64 (f l)) ∧ W = w') := fun W l hW h0 h1 => by
            rw [HFF.out]
            exact l3Map_any _ _ _ _ _ _ _ (HM0.out.2.2.2.mono' (B := B) (fun a ha _ => by cases ha; exact hgm) (hb3.trans hW)) h0 (by rw [HVV.out] at h1; exact h1) v22
          have cb := (blk_all HW3.out.2.1).1
          clear hb3 hn3 hW3 hlb2 hlr hgm hB
          go_wp2_with fail
          clear cb
          go_loopw [10] (fun i wr => ∃ (k : Nat) (s : Option Addr) (cc : Nat), k ≤ c.gates.length ∧ i = .int .i64 k ∧ OutC wr B B c.inp [] (mapG f (c.gates.take k)) [] (.slice none 0 0) (.slice s k cc) (.slice none 0 0) ∧ Below B W3 wr) (fun i _ => c.gates.length - (intOf i).toNat)
          case atStart => exact ⟨0, _, _, Nat.zero_le _, rfl, HW3.out.2.2.1, Below.refl _ _⟩
          case round =>
            obtain ⟨k, s, cc, hk, rfl, hO, hbl⟩ := hrel
            have hbox := blk_below hbl hBw HW3.out.2.1
            have hsz : B < wr.heap.size := blk_lt hO.blk
            have hlk : (mapG f (c.gates.take k)).length = k := by simp [mapG]; omega
            have hlk1 : k < c.gates.length → (mapG f (c.gates.take (k + 1))).length = k + 1 := fun h => by simp [mapG]; omega
            have cb := (blk_all hbox).1
            by_cases hlt : k < c.gates.length
            · obtain ⟨g, hg⟩ := get_of_lt hlt
              obtain ⟨gb, gf, rfl, hgb, zx, zy⟩ := H.out.2.1.gate (Below.refl _ _) hg
              obtain ⟨⟨a0, a1⟩, b0, b1⟩ := valid_gate H.out.2.2.2 hg
              have hfv := (valid_first H.out.2.2.2).2.2.1
              have hS : ∀ W, Below B W3 W → W.heap[B]? = some (.cells #[Value.int .i64 c.inp, .slice none 0 0, .slice s k cc, .slice none 0 0] 29 (0, 0)) → (fun w' => (∀ o, w'.cell? ⟨B, o, none⟩ = #[Value.int .i64 c.inp, .slice none 0 0, .slice s k cc, .slice none 0 0][o]?) ∧ (∀ o, w'.cell? ⟨w.heap.size, o, none⟩ = #[Value.int .i64 c.inp, Value.slice sn c.next.length cn, Value.slice (some ⟨gb, gf, none⟩) c.gates.length cg, Value.slice so c.outs.length co][o]?) ∧ w'.cell? ⟨gb, gf + k * 2, none⟩ = some (.int .i64 g.a) ∧ w'.cell? ⟨gb, gf + k * 2 + 1, none⟩ = some (.int .i64 g.b)) W := fun W hW hB => ⟨(blk_all hB).1, (blk_all (blk_below hW hBw HW3.out.2.1)).1, ((HW3.out.1.trans (hW.mono (Nat.le_of_lt hBw))).cell (p := ⟨gb, gf + k * 2, none⟩) hgb).trans zx, ((HW3.out.1.trans (hW.mono (Nat.le_of_lt hBw))).cell (p := ⟨gb, gf + k * 2 + 1, none⟩) hgb).trans zy⟩
              have HR := Lib.hid (And.intro hO (And.intro hbl (And.intro hg (And.intro hlk (And.intro (hlk1 hlt) (And.intro (show g.a / 2 < c.vars ∧ g.b / 2 < c.vars by omega) hS))))))
              clear hg a1 b1 hfv zx zy hgb
              clear hO hlk hlk1 hbl hbox hS
              go_upto_region 13 with fail
              clear cb
              refine wp_region_E (fun w' => (∀ o, w'.cell? ⟨B, o, none⟩ = #[Value.int .i64 c.inp, .slice none 0 0, .slice s k cc, .slice none 0 0][o]?) ∧ (∀ o, w'.cell? ⟨w.heap.size, o, none⟩ = #[Value.int .i64 c.inp, Value.slice sn c.next.length cn, Value.slice (some ⟨gb, gf, none⟩) c.gates.length cg, Value.slice so c.outs.length co][o]?) ∧ w'.cell? ⟨gb, gf + k * 2, none⟩ = some (.int .i64 g.a) ∧ w'.cell? ⟨gb, gf + k * 2 + 1, none⟩ = some (.int .i64 g.b)) 22 (.q 0 (.q 1 (.q 2 (.q 3 (.q 4 (.q 5 (.q 6 (.q 7 (.q 8 (.q 10 (.q 11 (.q 12 (.q 13 (.q 14 (.q 15 (.q 16 (.e 9 (.e 17 (.q 18 (.e 19 (.e 20 (.q 21 (.z 22))))))))))))))))))))))) (by kernel_rfl) (by kernel_rfl) (by kernel_rfl) (by kernel_rfl) (by kernel_rfl) (by kernel_rfl) (HR.out.2.2.2.2.2.2 _ HR.out.2.1.drew HR.out.1.blk) ?_
              repeat (first | (refine orde_s (o := ?_) ?_ ?_ ?_; rotate_left 1; (focus ((simp only [List.getElem?_toArray, List.getElem?_cons_succ, List.getElem?_cons_zero]) <;> rfl)); (focus rfl); simp only [Act.put, List.setIfInBounds_toArray, List.set_cons_zero, List.set_cons_succ]) | (refine orde_q (o := ?_) (v := ?_) ?_ ?_ ?_ ?_; rotate_left 2; (focus ((simp only [List.getElem?_toArray, List.getElem?_cons_succ, List.getElem?_cons_zero]) <;> rfl)); (focus rfl); (focus (intro w' hS; (try dsimp only at hS); go_split_ands; go_simp; (try (with_reducible rfl)))); simp only [Act.put, List.setIfInBounds_toArray, List.set_cons_zero, List.set_cons_succ]))
              refine orde_e ?_
              (refine ope_e (o := ?_) ?_ ?_ (fun K hK => ?_); rotate_left 1; (focus ((simp only [List.getElem?_toArray, List.getElem?_cons_succ, List.getElem?_cons_zero]) <;> rfl)); (focus rfl); go_simp)
              refine (HLM.out _ (g.a) HR.out.2.1.drew a0 HR.out.2.2.2.2.2.1.1).mono ?_
              rintro e wa ⟨rfl, rfl⟩
              refine hK.out _ _ (HR.out.2.2.2.2.2.2 _ HR.out.2.1.drew HR.out.1.blk) ?_
              clear hK K
              (try simp only [Act.put, List.setIfInBounds_toArray, List.set_cons_zero, List.set_cons_succ])
              refine orde_e ?_
              (refine ope_e (o := ?_) ?_ ?_ (fun K hK => ?_); rotate_left 1; (focus ((simp only [List.getElem?_toArray, List.getElem?_cons_succ, List.getElem?_cons_zero]) <;> rfl)); (focus rfl); go_simp)
              refine (HLM.out _ (g.b) HR.out.2.1.drew b0 HR.out.2.2.2.2.2.1.2).mono ?_
              rintro e wa ⟨rfl, rfl⟩
              refine hK.out _ _ (HR.out.2.2.2.2.2.2 _ HR.out.2.1.drew HR.out.1.blk) ?_
              clear hK K
              (try simp only [Act.put, List.setIfInBounds_toArray, List.set_cons_zero, List.set_cons_succ])
              repeat (first | (refine orde_s (o := ?_) ?_ ?_ ?_; rotate_left 1; (focus ((simp only [List.getElem?_toArray, List.getElem?_cons_succ, List.getElem?_cons_zero]) <;> rfl)); (focus rfl); simp only [Act.put, List.setIfInBounds_toArray, List.set_cons_zero, List.set_cons_succ]) | (refine orde_q (o := ?_) (v := ?_) ?_ ?_ ?_ ?_; rotate_left 2; (focus ((simp only [List.getElem?_toArray, List.getElem?_cons_succ, List.getElem?_cons_zero]) <;> rfl)); (focus rfl); (focus (intro w' hS; (try dsimp only at hS); go_split_ands; go_simp; (try (with_reducible rfl)))); simp only [Act.put, List.setIfInBounds_toArray, List.set_cons_zero, List.set_cons_succ]))
              refine orde_e ?_
              (refine ope_e (o := ?_) ?_ ?_ (fun K hK => ?_); rotate_left 1; (focus ((simp only [List.getElem?_toArray, List.getElem?_cons_succ, List.getElem?_cons_zero]) <;> rfl)); (focus rfl); go_simp)
              have hb1 : Below wr.heap.size wr (wr.alloc (.cells #[.int .i64 (f g.a), .int .i64 (f g.b)] 47)).drew := ((Below.refl _ _).alloc (Nat.le_refl _) _).drew
              have hs1 : Sl (wr.alloc (.cells #[.int .i64 (f g.a), .int .i64 (f g.b)] 47)).drew (some ⟨wr.heap.size, 0, none⟩) [.int .i64 (f g.a), .int .i64 (f g.b)] := (Sl.new wr _ _).drew
              revert hb1 hs1
              generalize (wr.alloc (.cells #[.int .i64 (f g.a), .int .i64 (f g.b)] 47)).drew = W1
              intro hb1 hs1
              have hO1 := HR.out.1.below hb1
              have hB1 := HR.out.2.1.trans (hb1.mono (Nat.le_of_lt hsz))
              refine hK.out _ _ (HR.out.2.2.2.2.2.2 _ hB1 hO1.blk) ?_
              clear hK K
              have HW1 := Lib.hid (And.intro hO1 (And.intro hs1 hB1))
              have hs1z : B < W1.heap.size := blk_lt hO1.blk
              clear hO1 hb1 hs1 hB1
              (try simp only [Act.put, List.setIfInBounds_toArray, List.set_cons_zero, List.set_cons_succ])
              refine orde_e ?_
              (refine ope_e (o := ?_) ?_ ?_ (fun K hK => ?_); rotate_left 1; (focus ((simp only [List.getElem?_toArray, List.getElem?_cons_succ, List.getElem?_cons_zero]) <;> rfl)); (focus rfl))
              refine wp_app (.tmp 47) (.tmp 65) rfl elem_gate (by have h1 := HW1.out.1.g; rw [HR.out.2.2.2.1] at h1; exact h1) rfl rfl (by simp) HW1.out.2.1 (by simp [Value.oneCell']) (k + 1) rfl (gcells (mapG f (c.gates.take (k + 1)))) (by rw [mapG_snoc HR.out.2.2.1, ← gcells_append]; rfl) (by unfold maxLen; omega) (by omega) (by omega) ?_
              intro s6 c6 W2 ho6 hb6 hg6 hob6
              obtain ⟨hB2, hO2⟩ := HW1.out.1.pushG hg6 (xg' := (mapG f (c.gates.take (k + 1)))) (by rw [HR.out.2.2.2.2.1]; exact ho6)
              have hbb := HW1.out.2.2.trans hb6
              refine hK.out _ _ (HR.out.2.2.2.2.2.2 _ hbb hB2) ?_
              clear hK K
              have y1 : W2.cell? ⟨B, 2, none⟩ = some (.slice s k cc) := blk_cell hB2
              have y2 : W2.frozen? ⟨B, 2, none⟩ = false := blk_free hB2
              have HW2 := Lib.hid (And.intro hO2 hbb)
              clear hB2 hO2 ho6 hb6 hg6 hob6 hbb
              (try simp only [Act.put, List.setIfInBounds_toArray, List.set_cons_zero, List.set_cons_succ])
              repeat (first | (refine orde_s (o := ?_) ?_ ?_ ?_; rotate_left 1; (focus ((simp only [List.getElem?_toArray, List.getElem?_cons_succ, List.getElem?_cons_zero]) <;> rfl)); (focus rfl); simp only [Act.put, List.setIfInBounds_toArray, List.set_cons_zero, List.set_cons_succ]) | (refine orde_q (o := ?_) (v := ?_) ?_ ?_ ?_ ?_; rotate_left 2; (focus ((simp only [List.getElem?_toArray, List.getElem?_cons_succ, List.getElem?_cons_zero]) <;> rfl)); (focus rfl); (focus (intro w' hS; (try dsimp only at hS); go_split_ands; go_simp; (try (with_reducible rfl)))); simp only [Act.put, List.setIfInBounds_toArray, List.set_cons_zero, List.set_cons_succ]))
              (refine orde_z (o := ?_) ?_ ?_ (fun K hK => ?_); rotate_left 1; (focus ((simp only [List.getElem?_toArray, List.getElem?_cons_succ, List.getElem?_cons_zero]) <;> rfl)); (focus rfl); go_simp)
              refine hK.out _ _ ?_
              clear hK K y1 y2
              go_wp2_with fail
              go_roundw
              case rel => exact ⟨k + 1, s6, c6, by omega, by go_num, HW2.out.1, HW2.out.2.setCell (p := ⟨B, 2, none⟩) (Nat.le_refl _) _⟩
              case measure => simp [intOf]; omega
            · obtain rfl : k = c.gates.length := by omega
              rw [List.take_length] at hO
              obtain ⟨vX1, hvX⟩ : ∃ vX, vX = Value.slice s c.gates.length cc := ⟨_, rfl⟩
              rw [← hvX] at hO
              have HvX1 : Hid (∃ s' c', vX1 = Value.slice s' c.gates.length c') := ⟨_, _, hvX⟩
              have HY1 := Lib.hid (And.intro hO hbl)
              clear hO hbl hlk hlk1 hvX hbox
              go_wp2_with fail
              clear cb
              go_loopw [11] (fun i wr => ∃ (k : Nat) (s : Option Addr) (cc : Nat), k ≤ c.next.length ∧ i = .int .i64 k ∧ OutC wr B B c.inp ((c.next.take k).map f) (mapG f c.gates) [] (.slice s k cc) (vX1) (.slice none 0 0) ∧ Below B W3 wr) (fun i _ => c.next.length - (intOf i).toNat)
              case atStart => exact ⟨0, _, _, Nat.zero_le _, rfl, HY1.out.1, HY1.out.2⟩
              case round =>
                obtain ⟨k, s, cc, hk, rfl, hO, hbl⟩ := hrel
                have hbox := blk_below hbl hBw HW3.out.2.1
                have hsz : B < wr.heap.size := blk_lt hO.blk
                have hlk : ((c.next.take k).map f).length = k := by simp; omega
                have hlk1 : k < c.next.length → ((c.next.take (k + 1)).map f).length = k + 1 := fun h => by simp; omega
                have cb := (blk_all hbox).1
                by_cases hlt : k < c.next.length
                · obtain ⟨x, hx⟩ := get_of_lt hlt
                  obtain ⟨xb, xf, rfl, hxb, zx⟩ := H.out.1.int (Below.refl _ _) hx
                  obtain ⟨x0, x1⟩ : 0 ≤ x ∧ x < 2 * c.vars := H.out.2.2.2.next x (List.mem_of_getElem? hx)
                  have hS : ∀ W, Below B W3 W → W.heap[B]? = some (.cells #[Value.int .i64 c.inp, .slice s k cc, vX1, .slice none 0 0] 29 (0, 0)) → (fun w' => (∀ o, w'.cell? ⟨B, o, none⟩ = #[Value.int .i64 c.inp, .slice s k cc, vX1, .slice none 0 0][o]?) ∧ (∀ o, w'.cell? ⟨w.heap.size, o, none⟩ = #[Value.int .i64 c.inp, Value.slice (some ⟨xb, xf, none⟩) c.next.length cn, Value.slice sg c.gates.length cg, Value.slice so c.outs.length co][o]?) ∧ w'.cell? ⟨xb, xf + k, none⟩ = some (.int .i64 x)) W := fun W hW hB => ⟨(blk_all hB).1, (blk_all (blk_below hW hBw HW3.out.2.1)).1, ((HW3.out.1.trans (hW.mono (Nat.le_of_lt hBw))).cell (p := ⟨xb, xf + k, none⟩) hxb).trans zx⟩
                  have HR := Lib.hid (And.intro hO (And.intro hbl (And.intro hx (And.intro hlk (And.intro (hlk1 hlt) (And.intro (show x / 2 < c.vars by omega) hS))))))
                  clear hx x1 zx hxb
                  clear hO hlk hlk1 hbl hbox hS
                  go_upto_region 17 with fail
                  clear cb
                  refine wp_region_E (fun w' => (∀ o, w'.cell? ⟨B, o, none⟩ = #[Value.int .i64 c.inp, .slice s k cc, vX1, .slice none 0 0][o]?) ∧ (∀ o, w'.cell? ⟨w.heap.size, o, none⟩ = #[Value.int .i64 c.inp, Value.slice (some ⟨xb, xf, none⟩) c.next.length cn, Value.slice sg c.gates.length cg, Value.slice so c.outs.length co][o]?) ∧ w'.cell? ⟨xb, xf + k, none⟩ = some (.int .i64 x)) 12 (.q 0 (.q 1 (.q 2 (.q 3 (.q 4 (.q 5 (.q 6 (.q 7 (.e 8 (.e 9 (.e 10 (.q 11 (.z 12))))))))))))) (by kernel_rfl) (by kernel_rfl) (by kernel_rfl) (by kernel_rfl) (by kernel_rfl) (by kernel_rfl) (HR.out.2.2.2.2.2.2 _ HR.out.2.1.drew HR.out.1.blk) ?_
                  repeat (first | (refine orde_s (o := ?_) ?_ ?_ ?_; rotate_left 1; (focus ((simp only [List.getElem?_toArray, List.getElem?_cons_succ, List.getElem?_cons_zero]) <;> rfl)); (focus rfl); simp only [Act.put, List.setIfInBounds_toArray, List.set_cons_zero, List.set_cons_succ]) | (refine orde_q (o := ?_) (v := ?_) ?_ ?_ ?_ ?_; rotate_left 2; (focus ((simp only [List.getElem?_toArray, List.getElem?_cons_succ, List.getElem?_cons_zero]) <;> rfl)); (focus rfl); (focus (intro w' hS; (try dsimp only at hS); go_split_ands; go_simp; (try (with_reducible rfl)))); simp only [Act.put, List.setIfInBounds_toArray, List.set_cons_zero, List.set_cons_succ]))
                  refine orde_e ?_
                  (refine ope_e (o := ?_) ?_ ?_ (fun K hK => ?_); rotate_left 1; (focus ((simp only [List.getElem?_toArray, List.getElem?_cons_succ, List.getElem?_cons_zero]) <;> rfl)); (focus rfl); go_simp)
                  refine (HLM.out _ (x) HR.out.2.1.drew x0 HR.out.2.2.2.2.2.1).mono ?_
                  rintro e wa ⟨rfl, rfl⟩
                  refine hK.out _ _ (HR.out.2.2.2.2.2.2 _ HR.out.2.1.drew HR.out.1.blk) ?_
                  clear hK K
                  (try simp only [Act.put, List.setIfInBounds_toArray, List.set_cons_zero, List.set_cons_succ])
                  refine orde_e ?_
                  (refine ope_e (o := ?_) ?_ ?_ (fun K hK => ?_); rotate_left 1; (focus ((simp only [List.getElem?_toArray, List.getElem?_cons_succ, List.getElem?_cons_zero]) <;> rfl)); (focus rfl); go_simp)
                  have hb1 : Below wr.heap.size wr (wr.alloc (.cells #[.int .i64 (f x)] 3)).drew := ((Below.refl _ _).alloc (Nat.le_refl _) _).drew
                  have hs1 : Sl (wr.alloc (.cells #[.int .i64 (f x)] 3)).drew (some ⟨wr.heap.size, 0, none⟩) [.int .i64 (f x)] := (Sl.new wr _ _).drew
                  revert hb1 hs1
                  generalize (wr.alloc (.cells #[.int .i64 (f x)] 3)).drew = W1
                  intro hb1 hs1
                  have hO1 := HR.out.1.below hb1
                  have hB1 := HR.out.2.1.trans (hb1.mono (Nat.le_of_lt hsz))
                  refine hK.out _ _ (HR.out.2.2.2.2.2.2 _ hB1 hO1.blk) ?_
                  clear hK K
                  have HW1 := Lib.hid (And.intro hO1 (And.intro hs1 hB1))
                  have hs1z : B < W1.heap.size := blk_lt hO1.blk
                  clear hO1 hb1 hs1 hB1
                  (try simp only [Act.put, List.setIfInBounds_toArray, List.set_cons_zero, List.set_cons_succ])
                  refine orde_e ?_
                  (refine ope_e (o := ?_) ?_ ?_ (fun K hK => ?_); rotate_left 1; (focus ((simp only [List.getElem?_toArray, List.getElem?_cons_succ, List.getElem?_cons_zero]) <;> rfl)); (focus rfl))
                  refine wp_app (.tmp 76) (.tmp 84) rfl elem_int (by have h1 := HW1.out.1.n; rw [HR.out.2.2.2.1] at h1; exact h1) rfl rfl (by simp) HW1.out.2.1 (by simp [Value.oneCell']) (k + 1) rfl (ints ((c.next.take (k + 1)).map f)) (by rw [map_snoc HR.out.2.2.1, ← ints_append]; rfl) (by unfold maxLen; omega) (by omega) (by omega) ?_
                  intro s6 c6 W2 ho6 hb6 hg6 hob6
                  obtain ⟨hB2, hO2⟩ := HW1.out.1.pushN hg6 (xn' := ((c.next.take (k + 1)).map f)) (by rw [HR.out.2.2.2.2.1]; exact ho6) hob6
                  have hbb := HW1.out.2.2.trans hb6
                  refine hK.out _ _ (HR.out.2.2.2.2.2.2 _ hbb hB2) ?_
                  clear hK K
                  have y1 : W2.cell? ⟨B, 1, none⟩ = some (.slice s k cc) := blk_cell hB2
                  have y2 : W2.frozen? ⟨B, 1, none⟩ = false := blk_free hB2
                  have HW2 := Lib.hid (And.intro hO2 hbb)
                  clear hB2 hO2 ho6 hb6 hg6 hob6 hbb
                  (try simp only [Act.put, List.setIfInBounds_toArray, List.set_cons_zero, List.set_cons_succ])
                  repeat (first | (refine orde_s (o := ?_) ?_ ?_ ?_; rotate_left 1; (focus ((simp only [List.getElem?_toArray, List.getElem?_cons_succ, List.getElem?_cons_zero]) <;> rfl)); (focus rfl); simp only [Act.put, List.setIfInBounds_toArray, List.set_cons_zero, List.set_cons_succ]) | (refine orde_q (o := ?_) (v := ?_) ?_ ?_ ?_ ?_; rotate_left 2; (focus ((simp only [List.getElem?_toArray, List.getElem?_cons_succ, List.getElem?_cons_zero]) <;> rfl)); (focus rfl); (focus (intro w' hS; (try dsimp only at hS); go_split_ands; go_simp; (try (with_reducible rfl)))); simp only [Act.put, List.setIfInBounds_toArray, List.set_cons_zero, List.set_cons_succ]))
                  (refine orde_z (o := ?_) ?_ ?_ (fun K hK => ?_); rotate_left 1; (focus ((simp only [List.getElem?_toArray, List.getElem?_cons_succ, List.getElem?_cons_zero]) <;> rfl)); (focus rfl); go_simp)
                  refine hK.out _ _ ?_
                  clear hK K y1 y2
                  go_wp2_with fail
                  go_roundw
                  case rel => exact ⟨k + 1, s6, c6, by omega, by go_num, HW2.out.1, HW2.out.2.setCell (p := ⟨B, 1, none⟩) (Nat.le_refl _) _⟩
                  case measure => simp [intOf]; omega
                · obtain rfl : k = c.next.length := by omega
                  rw [List.take_length] at hO
                  obtain ⟨vX2, hvX⟩ : ∃ vX, vX = Value.slice s c.next.length cc := ⟨_, rfl⟩
                  rw [← hvX] at hO
                  have HvX2 : Hid (∃ s' c', vX2 = Value.slice s' c.next.length c') := ⟨_, _, hvX⟩
                  have HY2 := Lib.hid (And.intro hO hbl)
                  clear hO hbl hlk hlk1 hvX hbox
                  go_wp2_with fail
                  clear cb
                  go_loopw [12] (fun i wr => ∃ (k : Nat) (s : Option Addr) (cc : Nat), k ≤ c.outs.length ∧ i = .int .i64 k ∧ OutC wr B B c.inp (c.next.map f) (mapG f c.gates) ((c.outs.take k).map f) (vX2) (vX1) (.slice s k cc) ∧ Below B W3 wr) (fun i _ => c.outs.length - (intOf i).toNat)
                  case atStart => exact ⟨0, _, _, Nat.zero_le _, rfl, HY2.out.1, HY2.out.2⟩
                  case round =>
                    obtain ⟨k, s, cc, hk, rfl, hO, hbl⟩ := hrel
                    have hbox := blk_below hbl hBw HW3.out.2.1
                    have hsz : B < wr.heap.size := blk_lt hO.blk
                    have hlk : ((c.outs.take k).map f).length = k := by simp; omega
                    have hlk1 : k < c.outs.length → ((c.outs.take (k + 1)).map f).length = k + 1 := fun h => by simp; omega
                    have cb := (blk_all hbox).1
                    by_cases hlt : k < c.outs.length
                    · obtain ⟨x, hx⟩ := get_of_lt hlt
                      obtain ⟨xb, xf, rfl, hxb, zx⟩ := H.out.2.2.1.int (Below.refl _ _) hx
                      obtain ⟨x0, x1⟩ : 0 ≤ x ∧ x < 2 * c.vars := H.out.2.2.2.outs x (List.mem_of_getElem? hx)
                      have hS : ∀ W, Below B W3 W → W.heap[B]? = some (.cells #[Value.int .i64 c.inp, vX2, vX1, .slice s k cc] 29 (0, 0)) → (fun w' => (∀ o, w'.cell? ⟨B, o, none⟩ = #[Value.int .i64 c.inp, vX2, vX1, .slice s k cc][o]?) ∧ (∀ o, w'.cell? ⟨w.heap.size, o, none⟩ = #[Value.int .i64 c.inp, Value.slice sn c.next.length cn, Value.slice sg c.gates.length cg, Value.slice (some ⟨xb, xf, none⟩) c.outs.length co][o]?) ∧ w'.cell? ⟨xb, xf + k, none⟩ = some (.int .i64 x)) W := fun W hW hB => ⟨(blk_all hB).1, (blk_all (blk_below hW hBw HW3.out.2.1)).1, ((HW3.out.1.trans (hW.mono (Nat.le_of_lt hBw))).cell (p := ⟨xb, xf + k, none⟩) hxb).trans zx⟩
                      have HR := Lib.hid (And.intro hO (And.intro hbl (And.intro hx (And.intro hlk (And.intro (hlk1 hlt) (And.intro (show x / 2 < c.vars by omega) hS))))))
                      clear hx x1 zx hxb
                      clear hO hlk hlk1 hbl hbox hS
                      go_upto_region 21 with fail
                      clear cb
                      refine wp_region_E (fun w' => (∀ o, w'.cell? ⟨B, o, none⟩ = #[Value.int .i64 c.inp, vX2, vX1, .slice s k cc][o]?) ∧ (∀ o, w'.cell? ⟨w.heap.size, o, none⟩ = #[Value.int .i64 c.inp, Value.slice sn c.next.length cn, Value.slice sg c.gates.length cg, Value.slice (some ⟨xb, xf, none⟩) c.outs.length co][o]?) ∧ w'.cell? ⟨xb, xf + k, none⟩ = some (.int .i64 x)) 12 (.q 0 (.q 1 (.q 2 (.q 3 (.q 4 (.q 5 (.q 6 (.q 7 (.e 8 (.e 9 (.e 10 (.q 11 (.z 12))))))))))))) (by kernel_rfl) (by kernel_rfl) (by kernel_rfl) (by kernel_rfl) (by kernel_rfl) (by kernel_rfl) (HR.out.2.2.2.2.2.2 _ HR.out.2.1.drew HR.out.1.blk) ?_
                      repeat (first | (refine orde_s (o := ?_) ?_ ?_ ?_; rotate_left 1; (focus ((simp only [List.getElem?_toArray, List.getElem?_cons_succ, List.getElem?_cons_zero]) <;> rfl)); (focus rfl); simp only [Act.put, List.setIfInBounds_toArray, List.set_cons_zero, List.set_cons_succ]) | (refine orde_q (o := ?_) (v := ?_) ?_ ?_ ?_ ?_; rotate_left 2; (focus ((simp only [List.getElem?_toArray, List.getElem?_cons_succ, List.getElem?_cons_zero]) <;> rfl)); (focus rfl); (focus (intro w' hS; (try dsimp only at hS); go_split_ands; go_simp; (try (with_reducible rfl)))); simp only [Act.put, List.setIfInBounds_toArray, List.set_cons_zero, List.set_cons_succ]))
                      refine orde_e ?_
                      (refine ope_e (o := ?_) ?_ ?_ (fun K hK => ?_); rotate_left 1; (focus ((simp only [List.getElem?_toArray, List.getElem?_cons_succ, List.getElem?_cons_zero]) <;> rfl)); (focus rfl); go_simp)
                      refine (HLM.out _ (x) HR.out.2.1.drew x0 HR.out.2.2.2.2.2.1).mono ?_
                      rintro e wa ⟨rfl, rfl⟩
                      refine hK.out _ _ (HR.out.2.2.2.2.2.2 _ HR.out.2.1.drew HR.out.1.blk) ?_
                      clear hK K
                      (try simp only [Act.put, List.setIfInBounds_toArray, List.set_cons_zero, List.set_cons_succ])
                      refine orde_e ?_
                      (refine ope_e (o := ?_) ?_ ?_ (fun K hK => ?_); rotate_left 1; (focus ((simp only [List.getElem?_toArray, List.getElem?_cons_succ, List.getElem?_cons_zero]) <;> rfl)); (focus rfl); go_simp)
                      have hb1 : Below wr.heap.size wr (wr.alloc (.cells #[.int .i64 (f x)] 3)).drew := ((Below.refl _ _).alloc (Nat.le_refl _) _).drew
                      have hs1 : Sl (wr.alloc (.cells #[.int .i64 (f x)] 3)).drew (some ⟨wr.heap.size, 0, none⟩) [.int .i64 (f x)] := (Sl.new wr _ _).drew
                      revert hb1 hs1
                      generalize (wr.alloc (.cells #[.int .i64 (f x)] 3)).drew = W1
                      intro hb1 hs1
                      have hO1 := HR.out.1.below hb1
                      have hB1 := HR.out.2.1.trans (hb1.mono (Nat.le_of_lt hsz))
                      refine hK.out _ _ (HR.out.2.2.2.2.2.2 _ hB1 hO1.blk) ?_
                      clear hK K
                      have HW1 := Lib.hid (And.intro hO1 (And.intro hs1 hB1))
                      have hs1z : B < W1.heap.size := blk_lt hO1.blk
                      clear hO1 hb1 hs1 hB1
                      (try simp only [Act.put, List.setIfInBounds_toArray, List.set_cons_zero, List.set_cons_succ])
                      refine orde_e ?_
                      (refine ope_e (o := ?_) ?_ ?_ (fun K hK => ?_); rotate_left 1; (focus ((simp only [List.getElem?_toArray, List.getElem?_cons_succ, List.getElem?_cons_zero]) <;> rfl)); (focus rfl))
                      refine wp_app (.tmp 95) (.tmp 103) rfl elem_int (by have h1 := HW1.out.1.o; rw [HR.out.2.2.2.1] at h1; exact h1) rfl rfl (by simp) HW1.out.2.1 (by simp [Value.oneCell']) (k + 1) rfl (ints ((c.outs.take (k + 1)).map f)) (by rw [map_snoc HR.out.2.2.1, ← ints_append]; rfl) (by unfold maxLen; omega) (by omega) (by omega) ?_
                      intro s6 c6 W2 ho6 hb6 hg6 hob6
                      obtain ⟨hB2, hO2⟩ := HW1.out.1.pushO hg6 (xo' := ((c.outs.take (k + 1)).map f)) (by rw [HR.out.2.2.2.2.1]; exact ho6) hob6
                      have hbb := HW1.out.2.2.trans hb6
                      refine hK.out _ _ (HR.out.2.2.2.2.2.2 _ hbb hB2) ?_
                      clear hK K
                      have y1 : W2.cell? ⟨B, 3, none⟩ = some (.slice s k cc) := blk_cell hB2
                      have y2 : W2.frozen? ⟨B, 3, none⟩ = false := blk_free hB2
                      have HW2 := Lib.hid (And.intro hO2 hbb)
                      clear hB2 hO2 ho6 hb6 hg6 hob6 hbb
                      (try simp only [Act.put, List.setIfInBounds_toArray, List.set_cons_zero, List.set_cons_succ])
                      repeat (first | (refine orde_s (o := ?_) ?_ ?_ ?_; rotate_left 1; (focus ((simp only [List.getElem?_toArray, List.getElem?_cons_succ, List.getElem?_cons_zero]) <;> rfl)); (focus rfl); simp only [Act.put, List.setIfInBounds_toArray, List.set_cons_zero, List.set_cons_succ]) | (refine orde_q (o := ?_) (v := ?_) ?_ ?_ ?_ ?_; rotate_left 2; (focus ((simp only [List.getElem?_toArray, List.getElem?_cons_succ, List.getElem?_cons_zero]) <;> rfl)); (focus rfl); (focus (intro w' hS; (try dsimp only at hS); go_split_ands; go_simp; (try (with_reducible rfl)))); simp only [Act.put, List.setIfInBounds_toArray, List.set_cons_zero, List.set_cons_succ]))
                      (refine orde_z (o := ?_) ?_ ?_ (fun K hK => ?_); rotate_left 1; (focus ((simp only [List.getElem?_toArray, List.getElem?_cons_succ, List.getElem?_cons_zero]) <;> rfl)); (focus rfl); go_simp)
                      refine hK.out _ _ ?_
                      clear hK K y1 y2
                      go_wp2_with fail
                      go_roundw
                      case rel => exact ⟨k + 1, s6, c6, by omega, by go_num, HW2.out.1, HW2.out.2.setCell (p := ⟨B, 3, none⟩) (Nat.le_refl _) _⟩
                      case measure => simp [intOf]; omega
                    · obtain rfl : k = c.outs.length := by omega
                      rw [List.take_length] at hO
                      obtain ⟨vX3, hvX⟩ : ∃ vX, vX = Value.slice s c.outs.length cc := ⟨_, rfl⟩
                      rw [← hvX] at hO
                      have HvX3 : Hid (∃ s' c', vX3 = Value.slice s' c.outs.length c') := ⟨_, _, hvX⟩
                      have HY3 := Lib.hid (And.intro hO hbl)
                      clear hO hbl hlk hlk1 hvX hbox
                      obtain ⟨sG, cG, rfl⟩ := HvX1.out
                      obtain ⟨sN, cN, rfl⟩ := HvX2.out
                      obtain ⟨sO, cO, rfl⟩ := HvX3.out
                      have hO := HY3.out.1
                      have hres := blk_below HY3.out.2 hBr HW3.out.2.2.2
                      have cB := (blk_all hO.blk).1
                      obtain ⟨rc, rf⟩ := blk_all hres
                      have e1 : (c.next.map f).length = c.next.length := by simp
                      have e2 : (mapG f c.gates).length = c.gates.length := by simp [mapG]
                      have e3 : (c.outs.map f).length = c.outs.length := by simp
                      have hown : CirOwn wr B (c.mapC f) (.slice sN c.next.length cN) (.slice sG c.gates.length cG) (.slice sO c.outs.length cO) :=
                        ⟨hO.n, hO.g, hO.o, hO.ne, by rw [show (c.mapC f).next.length = c.next.length from e1]; omega, by rw [show (c.mapC f).gates.length = c.gates.length from e2]; omega, by rw [show (c.mapC f).outs.length = c.outs.length from e3]; omega⟩
                      have HF := Lib.hid (And.intro hown (And.intro (HW3.out.1.trans (HY3.out.2.mono (Nat.le_of_lt hBw))) hres))
                      clear hO hres hown
                      go_wp2_with fail
                      clear cb
                      have hZ : ((((wr.setCell ⟨w.heap.size + 1, 0, none⟩ (.int .i64 c.inp)).setCell ⟨w.heap.size + 1, 1, none⟩ (.slice sN c.next.length cN)).setCell ⟨w.heap.size + 1, 2, none⟩ (.slice sG c.gates.length cG)).setCell ⟨w.heap.size + 1, 3, none⟩ (.slice sO c.outs.length cO)).heap[w.heap.size + 1]? = some (.cells #[.int .i64 c.inp, .slice sN c.next.length cN, .slice sG c.gates.length cG, .slice sO c.outs.length cO] 29 (0, 0)) := by
                        simpa using blk_set (o := 3) (v := .slice sO c.outs.length cO) (blk_set (o := 2) (v := .slice sG c.gates.length cG) (blk_set (o := 1) (v := .slice sN c.next.length cN) (blk_set (o := 0) (v := .int .i64 c.inp) HF.out.2.2)))
                      have hR := (HF.out.1).sets4 (r := w.heap.size + 1) (by omega) (base := w.heap.size) (by omega) (a := .int .i64 c.inp) (b' := .slice sN c.next.length cN) (c' := .slice sG c.gates.length cG) (d := .slice sO c.outs.length cO)
                      have hB := ((((HF.out.2.1).setCell (p := ⟨w.heap.size + 1, 0, none⟩) (by simp) (.int .i64 c.inp)).setCell (p := ⟨w.heap.size + 1, 1, none⟩) (by simp) (.slice sN c.next.length cN)).setCell (p := ⟨w.heap.size + 1, 2, none⟩) (by simp) (.slice sG c.gates.length cG)).setCell (p := ⟨w.heap.size + 1, 3, none⟩) (by simp) (.slice sO c.outs.length cO)
                      revert hZ hR hB
                      generalize ((((wr.setCell ⟨w.heap.size + 1, 0, none⟩ (.int .i64 c.inp)).setCell ⟨w.heap.size + 1, 1, none⟩ (.slice sN c.next.length cN)).setCell ⟨w.heap.size + 1, 2, none⟩ (.slice sG c.gates.length cG)).setCell ⟨w.heap.size + 1, 3, none⟩ (.slice sO c.outs.length cO)) = WZ
                      intro hZ hR hB
                      have cr := (blk_all hZ).1
                      rw [HFF.out] at hR
                      exact bodyPost_ret (v := .agg #[.int .i64 c.inp, .slice sN c.next.length cN, .slice sG c.gates.length cG, .slice sO c.outs.length cO]) (by simp [results, Try.results105, go_sem, cr]) rfl ⟨_, _, _, rfl, hR, hB⟩

end Go.Proofs.Ytindndcdpnpcmaa
