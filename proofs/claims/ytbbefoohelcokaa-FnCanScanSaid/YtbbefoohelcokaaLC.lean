import Derived.Test.YtbbefoohelcokaaLB
namespace Go.Proofs.Ytbbefoohelcokaa
set_option linter.unusedVariables false
set_option linter.unusedSimpArgs false
open Go.RowKit

/-! InsertScan of the program: what it returns is valid. -/

def ScPost (w : World) (e : Ending) (w' : World) : Prop :=
  ∃ (D : Cir) (vn vg vo : Value), e = .returned (.agg #[.int .i64 D.inp, vn, vg, vo]) ∧ CirOwn w' w.heap.size D vn vg vo ∧ D.validB = true ∧ Below w.heap.size w w'

structure Box2 (w W : World) (A B : Obj) : Prop where
  bl : Below w.heap.size w W
  a : W.heap[w.heap.size]? = some A
  b : W.heap[w.heap.size + 1]? = some B
theorem Box2.below {w W W' : World} {A B : Obj} (h : Box2 w W A B) (hb : Below W.heap.size W W') : Box2 w W' A B :=
  ⟨h.bl.trans (hb.mono h.bl.size), blk_below hb (blk_lt h.a) h.a, blk_below hb (blk_lt h.b) h.b⟩
theorem Box2.new (w : World) (A B : Obj) : Box2 w ((w.alloc A).alloc B) A B :=
  ⟨((Below.refl _ _).alloc (Nat.le_refl _) _).alloc (by simp) _, blk_old (blk_new _ _), blk_at (by simp)⟩

theorem sc_lit {E l v : Int} (h : litP l v) : litP (scF E l) (v + 2) := by
  unfold litP scF at *
  split <;> omega
theorem sc_gates {E F : Int} {gs : List Gt} (h : gatesP F gs) : gatesP (F + 2) (mapG (scF E) gs) := by
  intro i hi
  have hi' : i < gs.length := by simpa [mapG] using hi
  obtain ⟨h1, h2⟩ := h i hi'
  have e : F + 2 + (i : Int) = F + i + 2 := by omega
  rw [e]
  simp only [mapG, List.getElem_map]
  exact ⟨sc_lit h1, sc_lit h2⟩

set_option maxRecDepth 100000 in
set_option maxHeartbeats 3200000 in
theorem InsertScan_i (v : Value) (c : Cir) (w : World) (h : CirV w v c) (hc : canScanB c = true) :
    Calls Try.prog 8 #[v] w (ScPost w) := by
  have HC : Hid (∀ w', Below w.heap.size w w' → CirV w' v c) := fun w' hb => h.mono hb
  obtain ⟨sn, cn, sg, cg, so, co, rfl, h1, h2, h3, hl1, hl2, hl3⟩ := h
  have HS := Lib.hid (And.intro h1 (And.intro h2 h3))
  have HB := Lib.hid (Box2.new w (.cells #[.int .i64 c.inp, .slice sn c.next.length cn, .slice sg c.gates.length cg, .slice so c.outs.length co] 26) (.cells #[.int .i64 0, .slice none 0 0, .slice none 0 0, .slice none 0 0] 26))
  clear h1 h2 h3
  have hcs : c.validB = true ∧ ((1 : Int) ≤ c.next.length ∧ c.inp ≤ 2 ∧ c.outs.length < 3 ∧ c.gates.length + 3 * c.next.length ≤ 14) := by
    unfold canScanB at hc; simpa using hc
  obtain ⟨hvB, k1, k2, k3, k4⟩ := hcs
  have hval := c.validB_iff.1 hvB
  obtain ⟨q1, q2, q3, q4, q5⟩ := id hval.lim
  have eC : c.first = 1 + c.inp + c.next.length := rfl
  obtain ⟨E, hE⟩ : ∃ E : Int, E = 2 * (1 + c.inp) := ⟨_, rfl⟩
  obtain ⟨F, hF⟩ : ∃ F : Nat, c.first + 2 = F := ⟨(c.first + 2).toNat, by omega⟩
  obtain ⟨f, hf⟩ : ∃ f, f = scF E := ⟨_, rfl⟩
  have E6 : E ≤ 6 := by omega
  have E2 : 2 ≤ E := by omega
  have EF : E + 4 + 2 * (c.next.length : Int) ≤ 2 * (F : Int) := by omega
  have F8 : F ≤ 10 := by omega
  have hFe : 1 + (c.inp + 2) + (c.next.length : Int) = F := by omega
  have hv22 : c.vars ≤ 22 := by unfold Cir.vars; omega
  have HX := Lib.hid (And.intro hc (And.intro hval (And.intro hF (And.intro hf (And.intro hFe (And.intro hv22 hE))))))
  clear hc hvB hval hF eC hf hFe hv22
  go_enter Try.func8, Try.ntmps8
  go_upto_region 1 with fail
  revert HB
  generalize ((w.alloc (.cells #[.int .i64 c.inp, .slice sn c.next.length cn, .slice sg c.gates.length cg, .slice so c.outs.length co] 26)).alloc (.cells #[.int .i64 0, .slice none 0 0, .slice none 0 0, .slice none 0 0] 26)) = W0
  intro HB
  have cb := (blk_all HB.out.a).1
  clear hE
  go_upto_region 4 with (go_at_call 5; ((refine (CanScan_i _ c _ (HC.out _ HB.out.bl)).mono ?_); rintro e w1 ⟨rfl, hq⟩; have HB1 := Lib.hid (HB.out.below hq); clear hq cb; rw [HX.out.1]; have cb := (blk_all HB1.out.a).1))
  rw [← HX.out.2.2.2.2.2.2]
  obtain ⟨b1, hb1⟩ : ∃ b, b = w1.heap.size := ⟨_, rfl⟩
  have hk1 := blk_new w1 (.cells #[.int .i64 E] 3)
  have hB3 := HB1.out.below (below_alS w1 (.cells #[.int .i64 E] 3))
  rw [← hb1] at hk1
  rw [← hb1]
  have hlt1 : w.heap.size + 1 < b1 := by rw [hb1]; exact blk_lt HB1.out.b
  clear cb
  revert hk1 hB3
  generalize w1.alloc (.cells #[.int .i64 E] 3) = W3
  intro hk1 hB3
  have hlt4 := blk_lt hk1
  obtain ⟨N, hN⟩ : ∃ N, N = W3.heap.size := ⟨_, rfl⟩
  have K3 := Lib.hid (And.intro hk1 (And.intro hB3 hN))
  have HU : Hid (∀ W (l : Int), Below N W3 W → 0 ≤ l → l / 2 < c.vars → Calls Try.prog 17 #[.int .i64 l, .pointer (some ⟨b1, 0, none⟩)] W fun e w' => e = .returned (.int .i64 (f l)) ∧ W = w') := fun W l hW h0 h1 => by
    have hW' : Below W3.heap.size W3 W := by rw [← K3.out.2.2]; exact hW
    have hv := HX.out.2.2.2.2.2.1
    rw [HX.out.2.2.2.1]
    exact shift_any b1 E l W (blk_cell (blk_below hW' (blk_lt K3.out.1) K3.out.1)) (by omega) (by omega) h0 (by omega)
  have hNlt : b1 < N := by rw [hN]; exact hlt4
  have HP : Hid (∀ W, Below N W3 W → Box2 w W (.cells #[.int .i64 c.inp, .slice sn c.next.length cn, .slice sg c.gates.length cg, .slice so c.outs.length co] 26) (.cells #[.int .i64 0, .slice none 0 0, .slice none 0 0, .slice none 0 0] 26) ∧ W.heap[b1]? = some (.cells #[.int .i64 E] 3)) := fun W hW => by
    have hW' : Below W3.heap.size W3 W := by rw [← K3.out.2.2]; exact hW
    exact ⟨K3.out.2.1.below hW', blk_below hW' (blk_lt K3.out.1) K3.out.1⟩
  clear hk1 hB3 hN hlt4 hb1
  have HRP : Hid (Calls Try.prog 16 #[.pointer (some ⟨w.heap.size, 0, none⟩), .func (.func (17)) #[] #[.pointer (some ⟨b1, 0, none⟩)]] W3 fun e w' => ∃ vn vg vo, e = .returned (.agg #[.int .i64 c.inp, vn, vg, vo]) ∧ CirOwn w' N (c.mapC f) vn vg vo ∧ Below N W3 w') := by
    have hC3 := CirAt.of_blk K3.out.2.1.a
    have hn3 := HS.out.1.mono K3.out.2.1.bl
    have hg3 := HS.out.2.1.mono K3.out.2.1.bl
    have ho3 := HS.out.2.2.mono K3.out.2.1.bl
    have hu3 := HU.out
    have hv3 := HX.out.2.1
    rw [K3.out.2.2] at hu3 ⊢
    exact replacedS_any w.heap.size b1 c f sn sg so cn cg co W3 hC3 hn3 hg3 ho3 hv3 hu3
  go_wp2_with fail
  with_reducible refine HRP.out.mono ?_
  rintro e w4 ⟨vn, vg, vo, rfl, hR, hq⟩
  obtain ⟨s1, c1, rfl⟩ := own_shape hR.n
  obtain ⟨s2, c2, rfl⟩ := own_shape hR.g
  obtain ⟨s3, c3, rfl⟩ := own_shape hR.o
  have HR4 := Lib.hid (And.intro hR hq)
  clear hR hq
  go_upto_region 5 with fail
  obtain ⟨b4, hb4⟩ : ∃ b, b = w4.heap.size := ⟨_, rfl⟩
  have hk4 := blk_new w4 (.cells #[.int .i64 c.inp, .slice s1 (c.mapC f).next.length c1, .slice s2 (c.mapC f).gates.length c2, .slice s3 (c.mapC f).outs.length c3] 26)
  have hbb := below_alS w4 (.cells #[.int .i64 c.inp, .slice s1 (c.mapC f).next.length c1, .slice s2 (c.mapC f).gates.length c2, .slice s3 (c.mapC f).outs.length c3] 26)
  have hNb4 : N ≤ b4 := by rw [hb4]; have h1 := HR4.out.2.size; have h2 := K3.out.2.2; omega
  have hbl5 := HR4.out.2.trans (hbb.mono (by rw [← hb4]; exact hNb4))
  rw [← hb4] at hk4
  rw [← hb4]
  have hO5 : OutC (w4.alloc (.cells #[.int .i64 c.inp, .slice s1 (c.mapC f).next.length c1, .slice s2 (c.mapC f).gates.length c2, .slice s3 (c.mapC f).outs.length c3] 26)) N b4 c.inp (c.mapC f).next (c.mapC f).gates (c.mapC f).outs (.slice s1 (c.mapC f).next.length c1) (.slice s2 (c.mapC f).gates.length c2) (.slice s3 (c.mapC f).outs.length c3) :=
    ⟨hk4, own_below HR4.out.1.n hbb, own_below HR4.out.1.g hbb, own_below HR4.out.1.o hbb, HR4.out.1.ne⟩
  clear hbb hk4 hb4 HR4
  revert hbl5 hO5
  generalize w4.alloc (.cells #[.int .i64 c.inp, .slice s1 (c.mapC f).next.length c1, .slice s2 (c.mapC f).gates.length c2, .slice s3 (c.mapC f).outs.length c3] 26) = W5
  intro hbl5 hO5
  have hl1 : (c.mapC f).next.length = c.next.length := by simp [Cir.mapC]
  have hl2 : (c.mapC f).gates.length = c.gates.length := by simp [Cir.mapC, mapG]
  have hl3 : (c.mapC f).outs.length = c.outs.length := by simp [Cir.mapC]
  have hgs : gatesP (F : Int) (c.mapC f).gates := by rw [← HX.out.2.2.1, HX.out.2.2.2.1]; exact sc_gates HX.out.2.1.gates
  have hvar : (F : Int) + (c.mapC f).gates.length = c.vars + 2 := by
    have h1 := HX.out.2.2.1
    rw [hl2]; unfold Cir.first at h1; unfold Cir.vars; omega
  have hnx : ∀ x ∈ (c.mapC f).next, litP x ((F : Int) + (c.mapC f).gates.length) := by
    rw [hvar, HX.out.2.2.2.1]
    intro x hx
    obtain ⟨y, hy, rfl⟩ := List.mem_map.1 hx
    exact sc_lit (HX.out.2.1.next y hy)
  have hox : ∀ x ∈ (c.mapC f).outs, litP x ((F : Int) + c.gates.length) := by
    rw [← hl2, hvar, HX.out.2.2.2.1]
    intro x hx
    obtain ⟨y, hy, rfl⟩ := List.mem_map.1 hx
    exact sc_lit (HX.out.2.1.outs y hy)
  obtain ⟨n, hn⟩ : ∃ n, n = c.next.length := ⟨_, rfl⟩
  obtain ⟨G, hG⟩ : ∃ G, G = c.gates.length := ⟨_, rfl⟩
  rw [← hG] at hox
  revert hO5 hl1 hl2 hl3 hgs hnx hox
  clear hvar
  generalize (c.mapC f).next = xn
  generalize (c.mapC f).gates = xg
  generalize (c.mapC f).outs = xo
  intro hO5 hl1 hl2 hl3 hgs hnx hox
  obtain ⟨I, hI⟩ : ∃ I : Int, I = c.inp + 2 := ⟨_, rfl⟩
  have hO6 : OutC (W5.setCell ⟨b4, 0, none⟩ (.int .i64 (c.inp + 2))) N b4 I xn xg xo (.slice s1 xn.length c1) (.slice s2 xg.length c2) (.slice s3 xo.length c3) := by
    rw [hI]
    exact ⟨by simpa using blk_set (o := 0) (v := .int .i64 (c.inp + 2)) hO5.blk, own_set_ne hO5.n (own_tyb hO5.n hO5.blk (by decide)) _, own_set_ne hO5.g (own_tyb hO5.g hO5.blk (by decide)) _, own_set_ne hO5.o (own_tyb hO5.o hO5.blk (by decide)) _, hO5.ne⟩
  have hb6 := hbl5.setCell (p := ⟨b4, 0, none⟩) hNb4 (.int .i64 (c.inp + 2))
  obtain ⟨cb, cf⟩ := blk_all hO5.blk
  have H6 := Lib.hid (And.intro hO6 hb6)
  have HG := Lib.hid (And.intro hgs (And.intro hnx (And.intro hl2 hox)))
  have HP5 := Lib.hid (HP.out _ hbl5)
  clear hbl5 hO5 hO6 hb6 hgs hnx hox hl2
  go_upto_region 6 with fail
  clear cb cf HP5
  revert H6
  generalize W5.setCell ⟨b4, 0, none⟩ (.int .i64 (c.inp + 2)) = W6
  intro H6
  have hs : SI N b4 I n F G 0 (.slice s3 xo.length c3) xo xn xg s1 s2 c1 c2 W6 := by
    have h2 := HG.out.2.2.1
    refine ⟨?_, by omega, by omega, HG.out.1, by have h1 := H6.out.2.size; have h2 := K3.out.2.2; omega⟩
    have h := H6.out.1
    rw [show xn.length = n by omega] at h
    exact h
  have hn6 := hs.out.n
  rw [hs.ln] at hn6
  obtain ⟨g1, rfl, hg1⟩ := own_ptr hn6 (show 0 < n by omega) (show 0 < 1 by omega)
  clear hn6
  have HSI := Lib.hid hs
  have cb := (blk_all hs.out.blk).1
  have k1 := (blk_all (HP.out _ H6.out.2).2).1
  clear hs
  have HN := Lib.hid (And.intro hn hG)
  have hn3 : n ≤ 3 := by omega
  have hn1 : 1 ≤ n := by omega
  have hGn : G + 3 * n ≤ 14 := by omega
  have hI0 : 0 ≤ I := by omega
  have hI4 : I ≤ 4 := by omega
  have hFI : Hid (1 + I + (n : Int) = F) := (show 1 + I + (n : Int) = F by rw [hI, hn]; exact HX.out.2.2.2.2.1)
  have hEF : E + 4 + 2 * (n : Int) ≤ 2 * (F : Int) := by omega
  clear hn hG EF hI
  rw [hl1, HN.out.1.symm] 
  go_wp2_with fail
  have hxo : xo.length ≤ 2 := by omega
  clear hl1 hl3 cb k1 k2 k3 k4 q1 q2 q3 q4 q5
  obtain ⟨vo, hvo⟩ : ∃ v, v = Value.slice s3 xo.length c3 := ⟨_, rfl⟩
  rw [← hvo] at HSI
  have HVO := Lib.hid hvo
  have hvn : Hid (∀ k, vo.ownBlock = some k → k ≠ g1) := fun k hk e => by
    subst e
    exact HSI.out.out.ne _ rfl hk
  clear hvo
  go_loopw [30, 5] (fun v30 v5 wr => ∃ (i : Nat) (sc : Int) (xn : List Int) (xg : List Gt) (s2 : Option Addr) (c2 : Nat), i ≤ n ∧ v30 = .int .i64 i ∧ v5 = .int .i64 sc ∧ 0 ≤ sc ∧ sc < 2 * (F : Int) ∧ (∀ x ∈ xn, litP x ((F : Int) + xg.length)) ∧ SI N b4 I n F G (3 * i) vo xo xn xg (some ⟨g1, 0, none⟩) s2 c1 c2 wr ∧ Below N W3 wr) (fun v30 _ _ => n - (intOf v30).toNat)
  case atStart => exact ⟨0, E + 2, xn, xg, _, _, Nat.zero_le _, rfl, rfl, by omega, by omega, HG.out.2.1, HSI.out, H6.out.2⟩
  case round =>
    clear HSI H6
    obtain ⟨i, sc, xn, xg, s2, c2, hi, rfl, rfl, hsc0, hsc1, hnx, hs, hbl⟩ := hrel
    have HNX := Lib.hid hnx
    obtain ⟨ws, rfl⟩ : ∃ ws, ws = wr := ⟨_, rfl⟩
    have HSI := Lib.hid hs
    have HBL := Lib.hid hbl
    have k1 := (blk_all (HP.out _ hbl).2).1
    have cb := (blk_all hs.out.blk).1
    by_cases hlt : i < n
    · obtain ⟨x, hx⟩ := get_of_lt (l := xn) (k := i) (by rw [hs.ln]; exact hlt)
      obtain ⟨xb, xf, e, -, zx⟩ := (own_sl (s := some ⟨g1, 0, none⟩) (by have h := hs.out.n; rw [hs.ln] at h; exact h)).int (Below.refl _ _) hx
      cases e
      rw [Nat.zero_add] at zx
      have hxl := hnx x (List.mem_of_getElem? hx)
      have hlg := hs.lg
      have HXL := Lib.hid hxl
      have hx0 : 0 ≤ x := hxl.1
      have hx1 : x < 2 * ((F : Int) + 14) := by have := hxl.2; omega
      clear hs hbl hx hxl hlg hnx
      go_upto_region 11 with fail
      clear cb zx
      obtain ⟨H, hH⟩ : ∃ H, H = ws.heap.size := ⟨_, rfl⟩
      have hkH := blk_new ws (.cells #[.int .i64 0, .int .i64 0] 43)
      have hbb := below_alS ws (.cells #[.int .i64 0, .int .i64 0] 43)
      have hNws := HSI.out.hN
      have hNH : N ≤ H := by rw [hH]; exact hNws
      rw [← hH] at hkH
      rw [← hH]
      clear hH
      revert hkH hbb
      generalize ws.alloc (.cells #[.int .i64 0, .int .i64 0] 43) = WA
      intro hkH hbb
      have HSA := Lib.hid (HSI.out.below hbb)
      have HBA := Lib.hid (HBL.out.trans (hbb.mono hNws))
      have HKA := Lib.hid hkH
      have k1 := (blk_all (HP.out _ HBA.out).2).1
      clear hkH hbb hNws
      go_upto_region 12 with fail
      clear k1
      obtain ⟨L, hL⟩ : ∃ L, L = WA.heap.size := ⟨_, rfl⟩
      have hkL := blk_new WA (.cells #[.int .i64 E, .int .i64 sc, .int .i64 (E + 1), .int .i64 x] 36)
      have hbb := below_alS WA (.cells #[.int .i64 E, .int .i64 sc, .int .i64 (E + 1), .int .i64 x] 36)
      have hNws := HSA.out.hN
      have hNL : N ≤ L := by rw [hL]; exact hNws
      have hHL : H < L := by rw [hL]; exact blk_lt HKA.out
      rw [← hL] at hkL
      rw [← hL]
      have HNL := Lib.hid (fun e => by have := (own_blk HSA.out.out.g e).2; omega : (Value.slice s2 xg.length c2).ownBlock ≠ some L)
      clear hL
      revert hkL hbb
      generalize WA.alloc (.cells #[.int .i64 E, .int .i64 sc, .int .i64 (E + 1), .int .i64 x] 36) = WB
      intro hkL hbb
      have HSB := Lib.hid (HSA.out.below hbb)
      have HBB := Lib.hid (HBA.out.trans (hbb.mono hNws))
      have HKB := Lib.hid (blk_below hbb (blk_lt HKA.out) HKA.out)
      have HLB := Lib.hid hkL
      clear hkL hbb hNws HSA HBA HKA
      go_loopw [44] (fun v44 wr => ∃ (k m : Nat) (h0 h1 : Int) (xn : List Int) (xg : List Gt) (s2 : Option Addr) (c2 : Nat), k ≤ 2 ∧ v44 = .int .i64 k ∧ (k < 2 → m = 3 * i + k) ∧ (k = 2 → m = 3 * i + 3) ∧ (k = 1 → litP h0 ((F : Int) + xg.length)) ∧ (k < 2 → litP x ((F : Int) + xg.length)) ∧ (∀ x ∈ xn, litP x ((F : Int) + xg.length)) ∧ SI N b4 I n F G m vo xo xn xg (some ⟨g1, 0, none⟩) s2 c1 c2 wr ∧ wr.heap[H]? = some (.cells #[.int .i64 h0, .int .i64 h1] 43 (0, 0)) ∧ wr.heap[L]? = some (.cells #[.int .i64 E, .int .i64 sc, .int .i64 (E + 1), .int .i64 x] 36 (0, 0)) ∧ (Value.slice s2 xg.length c2).ownBlock ≠ some L ∧ Below N W3 wr) (fun v44 _ => 2 - (intOf v44).toNat)
      case atStart => exact ⟨0, 3 * i, 0, 0, xn, xg, _, _, by omega, rfl, by omega, by omega, by omega, fun _ => HXL.out, HNX.out, HSB.out, HKB.out, HLB.out, HNL.out, HBB.out⟩
      case round =>
        clear HSB HBB HKB HLB HSI HBL HXL HNL HNX
        obtain ⟨k, m, h0, h1, xn, xg, s2, c2, hk, rfl, hm1, hm2, hlh, hlx, hnx, hs, hkH, hkL, hnl, hbl⟩ := hrel
        have HNL := Lib.hid hnl
        have HNX := Lib.hid hnx
        have hcase : k = 0 ∨ k = 1 ∨ k = 2 := by omega
        have HSI := Lib.hid hs
        have HBL := Lib.hid hbl
        have HKH := Lib.hid hkH
        have HKL := Lib.hid hkL
        have HLX := Lib.hid (And.intro hlh hlx)
        have k1 := (blk_all (HP.out _ hbl).2).1
        have cl := (blk_all hkL).1
        have hlg := hs.lg
        clear hs hbl hkH hkL hlh hlx hnl hnx
        rcases hcase with rfl | rfl | rfl
        · obtain rfl : m = 3 * i + 0 := by omega
          clear hm1 hm2 hk
          rw [show ((0 : Nat) : Int) = 0 from rfl]
          have hxg : xg.length ≤ 12 := by omega
          have hxx := HLX.out.2 (by omega)
          have hx1 : x < 2 * ((F : Int) + xg.length) := hxx.2
          have HLG := Lib.hid hlg
          clear hxx hlg
          go_upto_region 14 with fail
          clear cl k1
          obtain ⟨gb, hgb⟩ : ∃ g, g = wr.heap.size := ⟨_, rfl⟩
          have hkg := blk_new wr (.cells #[.int .i64 E, .int .i64 sc] 36)
          have hbb := below_alS wr (.cells #[.int .i64 E, .int .i64 sc] 36)
          have hNw := HSI.out.hN
          have hNg : N ≤ gb := by rw [hgb]; exact hNw
          rw [← hgb] at hkg
          rw [← hgb]
          clear hgb
          revert hkg hbb
          generalize wr.alloc (.cells #[.int .i64 E, .int .i64 sc] 36) = WC
          intro hkg hbb
          have HSC := Lib.hid (HSI.out.below hbb)
          have HBC := Lib.hid (HBL.out.trans (hbb.mono hNw))
          have HHC := Lib.hid (blk_below hbb (blk_lt HKH.out) HKH.out)
          have HLC := Lib.hid (blk_below hbb (blk_lt HKL.out) HKL.out)
          have HGC := Lib.hid hkg
          clear hkg hbb hNw HSI HBL HKH HKL
          have cb := (blk_all HSC.out.out.blk).1
          go_upto_region 15 with (go_at_call 15; go_loud ((refine (vars_any b4 I _ _ n _ xg.length _ vo _ (CirAt.of_blk HSC.out.out.blk) ⟨by omega, by omega⟩ (by omega) (by omega)).mono ?_); rintro e wD ⟨rfl, hd⟩; rw [hFI.out]; have hbd := hd.below WC.heap.size; have HSD := Lib.hid (HSC.out.below hbd); have HBD := Lib.hid (HBC.out.trans (hbd.mono HSC.out.hN)); have HHD := Lib.hid (blk_below hbd (blk_lt HHC.out) HHC.out); have HLD := Lib.hid (blk_below hbd (blk_lt HLC.out) HLC.out); have HGD := Lib.hid (blk_below hbd (blk_lt HGC.out) HGC.out); obtain ⟨ch, fh⟩ := blk_all HHD.out; clear hd hbd cb HSC HBC HHC HLC HGC))
          clear ch fh
          have hs := HSD.out.setH HHD.out 0 (.int .i64 (2 * ((F : Int) + xg.length) + 1))
          have hkH := blk_set (o := 0) (v := .int .i64 (2 * ((F : Int) + xg.length) + 1)) HHD.out
          have hkL := blk_set_ne (b := L) (c := H) (o := 0) (v := .int .i64 (2 * ((F : Int) + xg.length) + 1)) (by omega) HLD.out
          have hkg := blk_set_ne (b := gb) (c := H) (o := 0) (v := .int .i64 (2 * ((F : Int) + xg.length) + 1)) (fun e => by have h1 := HHD.out; rw [e, HGD.out] at h1; simp at h1) HGD.out
          have hbl := HBD.out.setCell (p := ⟨H, 0, none⟩) hNH (.int .i64 (2 * ((F : Int) + xg.length) + 1))
          revert hs hkH hkL hkg hbl
          generalize wD.setCell ⟨H, 0, none⟩ (.int .i64 (2 * ((F : Int) + xg.length) + 1)) = WE
          intro hs hkH hkL hkg hbl
          have HS := Lib.hid hs
          have HKH := Lib.hid hkH
          have HKL := Lib.hid hkL
          have HBL := Lib.hid hbl
          have cb := (blk_all hs.out.blk).1
          have cg := (blk_all hkg).1
          clear hs hkH hkL hkg hbl HSD HBD HHD HLD HGD
          go_upto_region 16 with (at_builtin; refine wpl_app rfl _ _ rfl elem_gate (HS.out.below (below_alS _ _)).out.g rfl rfl rfl (Sl.new _ _ _) (by simp [Value.oneCell']) (xg.length + 1) rfl _ rfl (by unfold maxLen; omega) (by omega) (HS.out.below (below_alS _ _)).hN ?_; intro s6 c6 w6 h6 hb6 hg6 hob6; obtain ⟨hB6, hA⟩ := (HS.out.below (below_alS _ _)).push h6 rfl hg6 ⟨by omega, by omega⟩ ⟨by omega, by omega⟩; have HA := Lib.hid hA; have y1 : w6.cell? ⟨b4, 2, none⟩ = some (.slice s2 xg.length c2) := blk_cell hB6; have y2 : w6.frozen? ⟨b4, 2, none⟩ = false := blk_free hB6; have hba := below_alS WE (.cells #[.int .i64 E, .int .i64 sc] 36); have hb7 := (HBL.out.trans (hba.mono HS.out.hN)).trans hb6; have HB7 := Lib.hid (hb7.setCell (p := ⟨b4, 2, none⟩) hNb4 (.slice s6 (xg.length + 1) c6)); have HK7 := Lib.hid (HS.out.keep rfl hg6 hob6 HKH.out HKL.out HNL.out (.slice s6 (xg.length + 1) c6)); clear cb cg h6 hb6 hg6 hob6 hB6 hA hba hb7)
          clear y1 y2 HS HBL HKH HKL HNL
          revert HA HK7 HB7
          generalize w6.setCell ⟨b4, 2, none⟩ (.slice s6 (xg.length + 1) c6) = WF
          intro HA HB7 HK7
          obtain ⟨xg', e1, hs⟩ := HA.out
          have HS := Lib.hid hs
          have HE := Lib.hid e1
          rw [← e1] at HK7
          clear HA hs e1
          go_wp2_with fail
          go_roundw
          case rel => exact ⟨1, 3 * i + 0 + 1, 2 * ((F : Int) + xg.length) + 1, h1, xn, xg', s6, c6, by omega, rfl, by omega, by omega, fun _ => ⟨by omega, by have := HE.out; omega⟩, fun _ => litP_up (HLX.out.2 (by omega)) (by have := HE.out; omega), fun x hx => litP_up (HNX.out x hx) (by have := HE.out; omega), HS.out, HK7.out.1, HK7.out.2.1, HK7.out.2.2, HB7.out⟩
          case measure => simp [intOf]
        · obtain rfl : m = 3 * i + 1 := by omega
          clear hm1 hm2 hk
          rw [show ((1 : Nat) : Int) = 1 from rfl]
          have hxg : xg.length ≤ 13 := by omega
          have hxx := HLX.out.2 (by omega)
          have hx1 : x < 2 * ((F : Int) + xg.length) := hxx.2
          have HLG := Lib.hid hlg
          clear hxx hlg
          go_upto_region 14 with fail
          clear cl k1
          obtain ⟨gb, hgb⟩ : ∃ g, g = wr.heap.size := ⟨_, rfl⟩
          have hkg := blk_new wr (.cells #[.int .i64 (E + 1), .int .i64 x] 36)
          have hbb := below_alS wr (.cells #[.int .i64 (E + 1), .int .i64 x] 36)
          have hNw := HSI.out.hN
          have hNg : N ≤ gb := by rw [hgb]; exact hNw
          rw [← hgb] at hkg
          rw [← hgb]
          clear hgb
          revert hkg hbb
          generalize wr.alloc (.cells #[.int .i64 (E + 1), .int .i64 x] 36) = WC
          intro hkg hbb
          have HSC := Lib.hid (HSI.out.below hbb)
          have HBC := Lib.hid (HBL.out.trans (hbb.mono hNw))
          have HHC := Lib.hid (blk_below hbb (blk_lt HKH.out) HKH.out)
          have HLC := Lib.hid (blk_below hbb (blk_lt HKL.out) HKL.out)
          have HGC := Lib.hid hkg
          clear hkg hbb hNw HSI HBL HKH HKL
          have cb := (blk_all HSC.out.out.blk).1
          go_upto_region 15 with (go_at_call 15; go_loud ((refine (vars_any b4 I _ _ n _ xg.length _ vo _ (CirAt.of_blk HSC.out.out.blk) ⟨by omega, by omega⟩ (by omega) (by omega)).mono ?_); rintro e wD ⟨rfl, hd⟩; rw [hFI.out]; have hbd := hd.below WC.heap.size; have HSD := Lib.hid (HSC.out.below hbd); have HBD := Lib.hid (HBC.out.trans (hbd.mono HSC.out.hN)); have HHD := Lib.hid (blk_below hbd (blk_lt HHC.out) HHC.out); have HLD := Lib.hid (blk_below hbd (blk_lt HLC.out) HLC.out); have HGD := Lib.hid (blk_below hbd (blk_lt HGC.out) HGC.out); obtain ⟨ch, fh⟩ := blk_all HHD.out; clear hd hbd cb HSC HBC HHC HLC HGC))
          clear ch fh
          have hs := HSD.out.setH HHD.out 1 (.int .i64 (2 * ((F : Int) + xg.length) + 1))
          have hkH := blk_set (o := 1) (v := .int .i64 (2 * ((F : Int) + xg.length) + 1)) HHD.out
          have hkL := blk_set_ne (b := L) (c := H) (o := 1) (v := .int .i64 (2 * ((F : Int) + xg.length) + 1)) (by omega) HLD.out
          have hkg := blk_set_ne (b := gb) (c := H) (o := 1) (v := .int .i64 (2 * ((F : Int) + xg.length) + 1)) (fun e => by have h1 := HHD.out; rw [e, HGD.out] at h1; simp at h1) HGD.out
          have hbl := HBD.out.setCell (p := ⟨H, 1, none⟩) hNH (.int .i64 (2 * ((F : Int) + xg.length) + 1))
          revert hs hkH hkL hkg hbl
          generalize wD.setCell ⟨H, 1, none⟩ (.int .i64 (2 * ((F : Int) + xg.length) + 1)) = WE
          intro hs hkH hkL hkg hbl
          have HS := Lib.hid hs
          have HKH := Lib.hid hkH
          have HKL := Lib.hid hkL
          have HBL := Lib.hid hbl
          have cb := (blk_all hs.out.blk).1
          have cg := (blk_all hkg).1
          clear hs hkH hkL hkg hbl HSD HBD HHD HLD HGD
          go_upto_region 16 with (at_builtin; refine wpl_app rfl _ _ rfl elem_gate (HS.out.below (below_alS _ _)).out.g rfl rfl rfl (Sl.new _ _ _) (by simp [Value.oneCell']) (xg.length + 1) rfl _ rfl (by unfold maxLen; omega) (by omega) (HS.out.below (below_alS _ _)).hN ?_; intro s6 c6 w6 h6 hb6 hg6 hob6; obtain ⟨hB6, hA⟩ := (HS.out.below (below_alS _ _)).push h6 rfl hg6 ⟨by omega, by omega⟩ ⟨by omega, by omega⟩; have HA := Lib.hid hA; have y1 : w6.cell? ⟨b4, 2, none⟩ = some (.slice s2 xg.length c2) := blk_cell hB6; have y2 : w6.frozen? ⟨b4, 2, none⟩ = false := blk_free hB6; have hba := below_alS WE (.cells #[.int .i64 (E + 1), .int .i64 x] 36); have hb7 := (HBL.out.trans (hba.mono HS.out.hN)).trans hb6; have HB7 := Lib.hid (hb7.setCell (p := ⟨b4, 2, none⟩) hNb4 (.slice s6 (xg.length + 1) c6)); have HK7 := Lib.hid (HS.out.keep rfl hg6 hob6 HKH.out HKL.out HNL.out (.slice s6 (xg.length + 1) c6)); clear cb cg h6 hb6 hg6 hob6 hB6 hA hba hb7)
          clear y1 y2 HS HBL HKH HKL HNL
          revert HA HK7 HB7
          generalize w6.setCell ⟨b4, 2, none⟩ (.slice s6 (xg.length + 1) c6) = WF
          intro HA HB7 HK7
          obtain ⟨xg', e1, hs⟩ := HA.out
          have HS := Lib.hid hs
          have HE := Lib.hid e1
          rw [← e1] at HK7
          clear HA hs e1
          have hxg' : xg'.length ≤ 14 := by have := HE.out; omega
          obtain ⟨h2, hh2⟩ : ∃ h2 : Int, h2 = 2 * ((F : Int) + xg.length) + 1 := ⟨_, rfl⟩
          rw [← hh2] at HK7
          obtain ⟨V, hV⟩ : ∃ V : Int, V = (F : Int) + xg'.length := ⟨_, rfl⟩
          obtain ⟨V2, hV2⟩ : ∃ V2 : Int, V2 = 2 * V := ⟨_, rfl⟩
          have hw1 : IntKind.i64.wrap (2 * V) = V2 := by rw [IntWalk.i64_in _ ⟨by omega, by omega⟩]; exact hV2.symm
          obtain ⟨y, hy⟩ : ∃ y : Int, y = V2 + 1 := ⟨_, rfl⟩
          have hw2 : IntKind.i64.wrap (V2 + 1) = y := by rw [IntWalk.i64_in _ ⟨by omega, by omega⟩]; exact hy.symm
          have HV := Lib.hid (And.intro hV (And.intro hV2 (And.intro hy hh2)))
          clear hV hV2 hy hh2
          go_upto_region 17 with fail
          refine wp_region_T (fun w' => ∀ o, w'.cell? ⟨b4, o, none⟩ = #[Value.int .i64 I, .slice (some ⟨g1, 0, none⟩) n c1, .slice s6 xg'.length c6, vo][o]?) (.q 0 (.q 1 (.q 2 (.e 3 (.q 4 (.q 5 (.q 6 (.e 7 .nil)))))))) (by kernel_rfl) (by kernel_rfl) (by kernel_rfl) (blk_all (HS.out.below (Below.refl _ _).drew).out.blk).1 ?_
          repeat (first | (refine ordt_s (o := ?_) ?_ ?_ ?_; rotate_left 1; (focus ((simp only [List.getElem?_toArray, List.getElem?_cons_succ, List.getElem?_cons_zero]) <;> rfl)); (focus rfl); simp only [Act.put, List.setIfInBounds_toArray, List.set_cons_zero, List.set_cons_succ]) | (refine ordt_q (o := ?_) (v := ?_) ?_ ?_ ?_ ?_; rotate_left 2; (focus ((simp only [List.getElem?_toArray, List.getElem?_cons_succ, List.getElem?_cons_zero]) <;> rfl)); (focus rfl); (focus (intro w' hS; (try dsimp only at hS); go_split_ands; go_simp; (try (with_reducible rfl)))); simp only [Act.put, List.setIfInBounds_toArray, List.set_cons_zero, List.set_cons_succ]))
          refine ordt_e ?_
          (refine op_e (o := ?_) ?_ ?_ (fun K hK => ?_); rotate_left 1; (focus ((simp only [List.getElem?_toArray, List.getElem?_cons_succ, List.getElem?_cons_zero]) <;> rfl)); (focus rfl); go_simp)
          refine (vars_any b4 I _ _ n _ xg'.length _ vo _ (CirAt.of_blk (HS.out.below (Below.refl _ _).drew).out.blk) ⟨by omega, by omega⟩ (by omega) (by omega)).mono ?_
          rintro e wG ⟨rfl, hd⟩
          rw [hFI.out, ← HV.out.1]
          have hbd := (Below.refl WF.heap.size WF).drew.trans (hd.below _)
          have hs := HS.out.below hbd
          have hkH := blk_below hbd (blk_lt HK7.out.1) HK7.out.1
          have hkL := blk_below hbd (blk_lt HK7.out.2.1) HK7.out.2.1
          have hbl := HB7.out.trans (hbd.mono HS.out.hN)
          refine hK.out _ _ (blk_all hs.out.blk).1 ?_
          clear hK K
          obtain ⟨⟨z0, cz⟩, fz⟩ := hs.nblk hlt
          have hg1H : g1 ≠ H := fun e => own_tyb hs.out.n hkH (by decide) (by rw [e]; rfl)
          have hg1L : g1 ≠ L := fun e => own_tyb hs.out.n hkL (by decide) (by rw [e]; rfl)
          have HH := Lib.hid (And.intro hkH (And.intro hkL hbl))
          have HS := Lib.hid hs
          have HNLb := Lib.hid HK7.out.2.2
          clear hbd hs hkH hkL hbl HK7 HB7 hd
          (try simp only [Act.put, List.setIfInBounds_toArray, List.set_cons_zero, List.set_cons_succ])
          repeat (first | (refine ordt_s (o := ?_) ?_ ?_ ?_; rotate_left 1; (focus ((simp only [List.getElem?_toArray, List.getElem?_cons_succ, List.getElem?_cons_zero]) <;> rfl)); (focus rfl); simp only [Act.put, List.setIfInBounds_toArray, List.set_cons_zero, List.set_cons_succ]) | (refine ordt_q (o := ?_) (v := ?_) ?_ ?_ ?_ ?_; rotate_left 2; (focus ((simp only [List.getElem?_toArray, List.getElem?_cons_succ, List.getElem?_cons_zero]) <;> rfl)); (focus rfl); (focus (intro w' hS; (try dsimp only at hS); go_split_ands; go_simp; (try (with_reducible rfl)))); simp only [Act.put, List.setIfInBounds_toArray, List.set_cons_zero, List.set_cons_succ]))
          refine ordt_e ?_
          (refine op_e (o := ?_) ?_ ?_ (fun K hK => ?_); rotate_left 1; (focus ((simp only [List.getElem?_toArray, List.getElem?_cons_succ, List.getElem?_cons_zero]) <;> rfl)); (focus rfl); go_simp)
          have hs := HS.out.put hvn.out i y
          have hkH := blk_set_ne (o := i) (v := .int .i64 y) hg1H HH.out.1
          have hkL := blk_set_ne (o := i) (v := .int .i64 y) hg1L HH.out.2.1
          have hbl := HH.out.2.2.setCell (p := ⟨g1, i, none⟩) hg1 (.int .i64 y)
          refine hK.out _ _ (blk_all hs.out.blk).1 ?_
          clear hK K cz fz
          revert hs hkH hkL hbl
          generalize wG.setCell ⟨g1, i, none⟩ (.int .i64 y) = WJ
          intro hs hkH hkL hbl
          have HS := Lib.hid hs
          have HH := Lib.hid (And.intro hkH (And.intro hkL hbl))
          have cb := (blk_all hs.out.blk).1
          have ch := (blk_all hkH).1
          clear hs hkH hkL hbl hg1H hg1L
          (try simp only [Act.put, List.setIfInBounds_toArray, List.set_cons_zero, List.set_cons_succ])
          refine ordt_nil ?_
          have hh0 := HLX.out.1 trivial
          have hhl : Hid (litP h0 ((F : Int) + xg'.length) ∧ litP h2 ((F : Int) + xg'.length)) := by
            have h1 := HE.out
            have h3 := HV.out.2.2.2
            exact ⟨litP_up hh0 (by omega), ⟨by omega, by omega⟩⟩
          clear hh0
          go_upto_region 19 with (at_builtin; go_loud (refine wpl_app rfl _ _ rfl elem_gate (HS.out.below (below_alS _ _)).out.g rfl rfl rfl (Sl.new _ _ _) (by simp [Value.oneCell']) (xg'.length + 1) rfl _ rfl (by unfold maxLen; omega) (by omega) (HS.out.below (below_alS _ _)).hN ?_; intro s8 c8 w8 h6 hb6 hg6 hob6; obtain ⟨hB6, hA⟩ := (HS.out.below (below_alS _ _)).push h6 rfl hg6 hhl.out.1 hhl.out.2; have HA := Lib.hid hA; have y1 : w8.cell? ⟨b4, 2, none⟩ = some (.slice s6 xg'.length c6) := blk_cell hB6; have y2 : w8.frozen? ⟨b4, 2, none⟩ = false := blk_free hB6; have hba := below_alS WJ (.cells #[.int .i64 h0, .int .i64 h2] 36); have hb7 := (HH.out.2.2.trans (hba.mono HS.out.hN)).trans hb6; have HB7 := Lib.hid (hb7.setCell (p := ⟨b4, 2, none⟩) hNb4 (.slice s8 (xg'.length + 1) c8)); have HK7 := Lib.hid (HS.out.keep rfl hg6 hob6 HH.out.1 HH.out.2.1 HNLb.out (.slice s8 (xg'.length + 1) c8)); clear cb ch h6 hb6 hg6 hob6 hB6 hA hba hb7))
          clear y1 y2 HS HH
          revert HA HK7 HB7
          generalize w8.setCell ⟨b4, 2, none⟩ (.slice s8 (xg'.length + 1) c8) = WM
          intro HA HB7 HK7
          obtain ⟨xg2, e1, hs⟩ := HA.out
          have HS := Lib.hid hs
          have HE2 := Lib.hid e1
          rw [← e1] at HK7
          clear HA hs e1
          go_wp2_with fail
          go_roundw
          case rel => exact ⟨2, 3 * i + 1 + 1 + 1, h0, h2, xn.set i y, xg2, s8, c8, by omega, rfl, by omega, by omega, by omega, by omega, fun x hx => by
            have q1 := HE.out
            have q2 := HE2.out
            have q3 := HV.out
            rcases List.mem_or_eq_of_mem_set hx with hx | rfl
            · exact litP_up (HNX.out x hx) (by omega)
            · exact ⟨by omega, by omega⟩, HS.out, HK7.out.1, HK7.out.2.1, HK7.out.2.2, HB7.out⟩
          case measure => simp [intOf]
        · obtain rfl : m = 3 * i + 3 := by omega
          clear hm1 hm2 hk k1 cl hlg HLX
          rw [show ((2 : Nat) : Int) = 2 from rfl]
          have k1 := (blk_all (HP.out _ HBL.out).2).1
          go_wp2_with fail
          go_roundw
          case rel => exact ⟨i + 1, E + 4 + 2 * i, xn, xg, s2, c2, by omega, by go_num, by go_num, by omega, by omega, HNX.out, HSI.out, HBL.out⟩
          case measure => simp [intOf]; omega
    · obtain rfl : i = n := by omega
      have hlg := hs.lg
      have hln := hs.ln
      have HLG := Lib.hid (And.intro hlg hln)
      have hso := HSI.out.out
      rw [HVO.out] at hso
      have HSO := Lib.hid hso
      obtain ⟨hsf, hN0⟩ : Hid (SI N b4 I i F G (3 * i) vo xo xn xg (some ⟨g1, 0, none⟩) s2 c1 c2 ws) ∧ N ≤ ws.heap.size := ⟨HSI, hs.hN⟩
      rw [HVO.out] at cb
      obtain ⟨rc, rf⟩ := blk_all (HP.out _ hbl).1.b
      clear hs hbl hlg hln hso k1
      go_upto_region 23 with (at_builtin; go_loud (refine wpl_app rfl _ _ rfl elem_int (HSO.out.below (below_alS _ _)).o rfl rfl rfl (Sl.new _ _ _) (by simp [Value.oneCell']) (xo.length + 1) rfl (ints (xo ++ [sc])) (by rw [← ints_append]; rfl) (by unfold maxLen; omega) (by omega) (by have := (below_alS ws (.cells #[.int .i64 sc] 3)).size; omega) ?_; intro s6 c6 w6 h6 hb6 hg6 hob6; obtain ⟨hB6, hO6⟩ := (HSO.out.below (below_alS _ _)).pushO hg6 (xo' := xo ++ [sc]) (by rw [List.length_append]; exact h6) hob6; have y1 : w6.cell? ⟨b4, 3, none⟩ = some (.slice s3 xo.length c3) := blk_cell hB6; have y2 : w6.frozen? ⟨b4, 3, none⟩ = false := blk_free hB6; have hba := below_alS ws (.cells #[.int .i64 sc] 3); have hb7 := (HBL.out.trans (hba.mono hN0)).trans hb6; have HO6 := Lib.hid (And.intro hO6 (hb7.setCell (p := ⟨b4, 3, none⟩) hNb4 (.slice s6 (xo.length + 1) c6))); clear cb rc rf h6 hb6 hg6 hob6 hB6 hO6 hba hb7))
      clear y1 y2
      revert HO6
      generalize w6.setCell ⟨b4, 3, none⟩ (.slice s6 (xo.length + 1) c6) = WP
      intro HO6
      have cb := (blk_all HO6.out.1.blk).1
      have hpb := HP.out _ HO6.out.2
      obtain ⟨rc, rf⟩ := blk_all hpb.1.b
      have HPB := Lib.hid hpb.1
      clear hpb
      go_wp2_with fail
      have hown : CirOwn WP N ⟨I, xn, xg, xo ++ [sc]⟩ (.slice (some ⟨g1, 0, none⟩) i c1) (.slice s2 xg.length c2) (.slice s6 (xo.length + 1) c6) := by
        have q1 := HLG.out.1
        have q2 := HLG.out.2
        exact ⟨HO6.out.1.n, HO6.out.1.g, HO6.out.1.o, HO6.out.1.ne, by simp; omega, by simp; omega, by simp; omega⟩
      have hvalid : (⟨I, xn, xg, xo ++ [sc]⟩ : Cir).validB = true := by
        have q1 := HLG.out.1
        have q2 := HLG.out.2
        have q3 := hFI.out
        have ef : (⟨I, xn, xg, xo ++ [sc]⟩ : Cir).first = F := by unfold Cir.first; simp; omega
        have ev : (⟨I, xn, xg, xo ++ [sc]⟩ : Cir).vars = (F : Int) + xg.length := by unfold Cir.vars; simp; omega
        refine (Cir.validB_iff _).2 ⟨⟨by simp; omega, by simp; omega, by simp; omega, by simp; omega, by simp; omega⟩, ?_, ?_, ?_⟩
        · rw [ef]; exact hsf.out.gates
        · rw [ev]; exact HNX.out
        · rw [ev]
          intro y hy
          rcases List.mem_append.1 hy with hy | hy
          · exact litP_up (HG.out.2.2.2 y hy) (by omega)
          · obtain rfl := List.mem_singleton.1 hy
            exact ⟨hsc0, by omega⟩
      have HF := Lib.hid (And.intro hown hvalid)
      clear hown hvalid
      have hZ : ((((WP.setCell ⟨w.heap.size + 1, 0, none⟩ (.int .i64 I)).setCell ⟨w.heap.size + 1, 1, none⟩ (.slice (some ⟨g1, 0, none⟩) i c1)).setCell ⟨w.heap.size + 1, 2, none⟩ (.slice s2 xg.length c2)).setCell ⟨w.heap.size + 1, 3, none⟩ (.slice s6 (xo.length + 1) c6)).heap[w.heap.size + 1]? = some (.cells #[.int .i64 I, .slice (some ⟨g1, 0, none⟩) i c1, .slice s2 xg.length c2, .slice s6 (xo.length + 1) c6] 26 (0, 0)) := by
        simpa using blk_set (o := 3) (v := .slice s6 (xo.length + 1) c6) (blk_set (o := 2) (v := .slice s2 xg.length c2) (blk_set (o := 1) (v := .slice (some ⟨g1, 0, none⟩) i c1) (blk_set (o := 0) (v := .int .i64 I) HPB.out.b)))
      have hR := (HF.out.1).sets4 (r := w.heap.size + 1) (by omega) (base := w.heap.size) (by omega) (a := .int .i64 I) (b' := .slice (some ⟨g1, 0, none⟩) i c1) (c' := .slice s2 xg.length c2) (d := .slice s6 (xo.length + 1) c6)
      have hB := ((((HPB.out.bl).setCell (p := ⟨w.heap.size + 1, 0, none⟩) (by simp) (.int .i64 I)).setCell (p := ⟨w.heap.size + 1, 1, none⟩) (by simp) (.slice (some ⟨g1, 0, none⟩) i c1)).setCell (p := ⟨w.heap.size + 1, 2, none⟩) (by simp) (.slice s2 xg.length c2)).setCell (p := ⟨w.heap.size + 1, 3, none⟩) (by simp) (.slice s6 (xo.length + 1) c6)
      clear rc rf cb
      revert hZ hR hB
      generalize ((((WP.setCell ⟨w.heap.size + 1, 0, none⟩ (.int .i64 I)).setCell ⟨w.heap.size + 1, 1, none⟩ (.slice (some ⟨g1, 0, none⟩) i c1)).setCell ⟨w.heap.size + 1, 2, none⟩ (.slice s2 xg.length c2)).setCell ⟨w.heap.size + 1, 3, none⟩ (.slice s6 (xo.length + 1) c6)) = WZ
      intro hZ hR hB
      have cr := (blk_all hZ).1
      exact bodyPost_ret (v := .agg #[.int .i64 I, .slice (some ⟨g1, 0, none⟩) i c1, .slice s2 xg.length c2, .slice s6 (xo.length + 1) c6]) (by simp [results, Try.results8, go_sem, cr]) rfl ⟨⟨I, xn, xg, xo ++ [sc]⟩, _, _, _, rfl, hR, HF.out.2, hB⟩

end Go.Proofs.Ytbbefoohelcokaa
