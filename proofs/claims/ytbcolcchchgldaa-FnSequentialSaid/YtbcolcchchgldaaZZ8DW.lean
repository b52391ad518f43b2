import Derived.Test.YtbcolcchchgldaaZZ8DT
import Derived.Test.YtbcolcchchgldaaZZ8V3
import Derived.Test.YtbcolcchchgldaaZZ8Y0
import Derived.Test.YtbcolcchchgldaaZZ8V2
import Derived.Laws.EntriesVeiled
namespace Go.Proofs.Ytbcolcchchgldaa
set_option linter.unusedVariables false
set_option linter.unusedSimpArgs false
open Go.RowKit

/-! Part of the proof of one law. -/

def unm (u : List Bool) : Nat := u.count false

theorem unm_mono : ∀ {u t : List Bool}, u.length = t.length → (∀ x, onB u x → onB t x) → unm t ≤ unm u
  | [], [], _, _ => Nat.le_refl _
  | [], _ :: _, hl, _ => by simp at hl
  | _ :: _, [], hl, _ => by simp at hl
  | a :: u, b :: t, hl, h => by
    have ih := unm_mono (u := u) (t := t) (by simpa using hl) (fun x hx => by have := h (x + 1); simp only [onB, List.getD_cons_succ] at this; exact this hx)
    have h0 := h 0
    unfold unm at ih ⊢
    rw [List.count_cons, List.count_cons]
    cases a <;> cases b <;> simp_all [onB] <;> omega

theorem unm_set : ∀ {u : List Bool} {v : Nat}, v < u.length → ¬ onB u v → unm (u.set v true) + 1 = unm u
  | [], _, h, _ => by simp at h
  | a :: u, 0, _, h => by
    cases a
    · simp [unm]
    · exact absurd rfl h
  | a :: u, v + 1, h, hn => by
    have ih := unm_set (u := u) (v := v) (by simpa using h) (fun e => hn (by simpa [onB] using e))
    unfold unm at ih ⊢
    rw [List.set_cons_succ, List.count_cons, List.count_cons]
    omega

/-- What a visit of v marks. -/
structure VisP (c : Cir) (u : List Bool) (v : Nat) (t : List Bool) : Prop where
  len : t.length = u.length
  mono : ∀ x, onB u x → onB t x
  on : onB t v
  clos : ∀ x y, onB t x → ¬ onB u x → edgeV c x y → onB t y
  least : ∀ T : Nat → Prop, closV c T → T v → ∀ x, onB t x → onB u x ∨ T x

theorem VisP.done {c : Cir} {u : List Bool} {v : Nat} (h : onB u v) : VisP c u v u :=
  ⟨rfl, fun _ h => h, h, fun _ _ h1 h2 => absurd h1 h2, fun _ _ _ _ h => .inl h⟩

theorem VisP.leaf {c : Cir} {u : List Bool} {v : Nat} (hv : v < u.length) (he : ∀ y, ¬ edgeV c v y) : VisP c u v (u.set v true) :=
  ⟨by simp, fun x h => (onB_set hv).2 (.inr h), (onB_set hv).2 (.inl rfl), fun x y h hn e => by
    rcases (onB_set hv).1 h with rfl | h
    · exact absurd e (he y)
    · exact absurd h hn, fun T _ hT x h => by
    rcases (onB_set hv).1 h with rfl | h
    · exact .inr hT
    · exact .inl h⟩

theorem VisP.two {c : Cir} {u t s : List Bool} {v a b : Nat} (hv : v < u.length) (he : ∀ y, edgeV c v y → y = a ∨ y = b) (ha : edgeV c v a) (hb : edgeV c v b) (h1 : VisP c (u.set v true) a t) (h2 : VisP c t b s) : VisP c u v s := by
  refine ⟨by rw [h2.len, h1.len]; simp, fun x h => h2.mono x (h1.mono x ((onB_set hv).2 (.inr h))), h2.mono v (h1.mono v ((onB_set hv).2 (.inl rfl))), fun x y h hn e => ?_, fun T hc hT x h => ?_⟩
  · by_cases e1 : onB t x
    · by_cases e2 : onB (u.set v true) x
      · rcases (onB_set hv).1 e2 with rfl | e3
        · rcases he y e with rfl | rfl
          · exact h2.mono _ h1.on
          · exact h2.on
        · exact absurd e3 hn
      · exact h2.mono _ (h1.clos x y e1 e2 e)
    · exact h2.clos x y h e1 e
  · rcases h2.least T hc (hc v b hT hb) x h with h | h
    · rcases h1.least T hc (hc v a hT ha) x h with h | h
      · rcases (onB_set hv).1 h with rfl | h
        · exact .inr hT
        · exact .inl h
      · exact .inr h
    · exact .inr h

theorem VisP.one {c : Cir} {u t : List Bool} {v a : Nat} (hv : v < u.length) (he : ∀ y, edgeV c v y → y = a) (ha : edgeV c v a) (h1 : VisP c (u.set v true) a t) : VisP c u v t :=
  VisP.two hv (fun y h => .inl (he y h)) ha ha h1 (VisP.done h1.on)

theorem edge_gate {c : Cir} {ni F q : Nat} {g : Gt} (hi : c.inp = ni) (hF : F = 1 + ni + c.next.length) (hg : c.gates[q]? = some g) (y : Nat) : edgeV c (F + q) y ↔ y = (g.a / 2).toNat ∨ y = (g.b / 2).toNat := by
  have e : c.first.toNat = F := by unfold Cir.first; omega
  constructor
  · rintro (⟨k, g', h1, h2, h3⟩ | ⟨k, l, h1, h2, h3⟩)
    · obtain rfl : k = q := by omega
      rw [hg] at h1
      cases h1; exact h3
    · have := (List.getElem?_eq_some_iff.1 h1).1
      omega
  · intro h
    exact .inl ⟨q, g, hg, by omega, h⟩

theorem edge_latch {c : Cir} {ni q : Nat} {l : Int} (hi : c.inp = ni) (hl : c.next[q]? = some l) (y : Nat) : edgeV c (1 + ni + q) y ↔ y = (l / 2).toNat := by
  have hq := (List.getElem?_eq_some_iff.1 hl).1
  constructor
  · rintro (⟨k, g', h1, h2, h3⟩ | ⟨k, l', h1, h2, h3⟩)
    · have e : c.first.toNat = 1 + ni + c.next.length := by unfold Cir.first; omega
      omega
    · obtain rfl : k = q := by omega
      rw [hl] at h1
      cases h1; exact h3
  · intro h
    exact .inr ⟨q, l, hl, by omega, h⟩

theorem edge_inp {c : Cir} {ni v : Nat} (hi : c.inp = ni) (hv : v ≤ ni) (y : Nat) : ¬ edgeV c v y := by
  rintro (⟨k, g', h1, h2, h3⟩ | ⟨k, l', h1, h2, h3⟩)
  · have e : c.first.toNat = 1 + ni + c.next.length := by unfold Cir.first; omega
    omega
  · omega

def VisPost (c : Cir) (M Y : Nat) (Wb : World) (u : List Bool) (v : Nat) (e : Ending) (w' : World) : Prop :=
  e = .returned (.tuple #[]) ∧ ∃ t, VisP c u v t ∧ w'.heap[M]? = some (.cells (bools t).toArray 4 (0, 0)) ∧ OneB M Y Wb w'

/-- What stays while neededLatches visits. -/
def VisE (c : Cir) (b A KB M P Y V ni : Nat) (sn sg : Option Addr) (cn cg : Nat) (vo : Value) (Wb : World) : Prop :=
  ∀ W, OneB M Y Wb W → (W.cell? ⟨KB, 0, none⟩ = some (.slice (some ⟨M, 0, none⟩) V V) ∧ W.cell? ⟨A, 0, none⟩ = some (.pointer (some ⟨b, 0, none⟩)) ∧ W.cell? ⟨P, 0, none⟩ = some (.func (.func (121)) #[] #[.pointer (some ⟨KB, 0, none⟩), .pointer (some ⟨A, 0, none⟩), .pointer (some ⟨P, 0, none⟩)])) ∧ CirAt W b ni (.slice sn c.next.length cn) (.slice sg c.gates.length cg) vo ∧ Sl W sn (ints c.next) ∧ Sl W sg (gcells c.gates)

theorem OneB.drewZ {X Y : Nat} {a b : World} (h : OneB X Y a b) : OneB X Y a b.drew := h.below (Below.refl _ _).drew

theorem visit_on (c : Cir) (b A KB M P Y V ni : Nat) (sn sg : Option Addr) (cn cg : Nat) (vo : Value) (Wb : World) (HE : Hid (VisE c b A KB M P Y V ni sn sg cn cg vo Wb)) (v22 : V ≤ 22)
    (u : List Bool) (v : Nat) (w : World) (hl : u.length = V) (hv : v < V) (hb : w.heap[M]? = some (.cells (bools u).toArray 4 (0, 0))) (hz : OneB M Y Wb w) (hon : onB u v) :
    Calls Try.prog 121 #[.int .i64 v, .pointer (some ⟨KB, 0, none⟩), .pointer (some ⟨A, 0, none⟩), .pointer (some ⟨P, 0, none⟩)] w (VisPost c M Y Wb u v) := by
  have ck := (HE.out w hz).1.1
  obtain ⟨x, hx⟩ := get_of_lt (l := u) (k := v) (by omega)
  have hxt : x = true := by
    have h1 : u.getD v false = true := hon
    rw [List.getD_eq_getElem?_getD, hx] at h1; exact h1
  subst hxt
  have z1 := bools_cell hb hx
  have H := Lib.hid (And.intro hb (And.intro hz hon))
  clear hb hz hon hl hx
  go_enter Try.func121, Try.ntmps121
  go_wp2_with fail
  exact bodyPost_end (v := .tuple #[]) (by simp [results, Try.results121, go_sem]) rfl ⟨rfl, u, VisP.done H.out.2.2, H.out.1, H.out.2.1⟩

set_option maxRecDepth 100000 in
set_option maxHeartbeats 3200000 in
theorem visit_any (c : Cir) (b A KB M P V F ni : Nat) (sn sg : Option Addr) (cn cg : Nat) (vo : Value) (HN : Hid (c.inp = ni ∧ c.vars = V ∧ F = 1 + ni + c.next.length ∧ V = F + c.gates.length ∧ c.valid))
    (v22 : V ≤ 22) (f8 : F ≤ 8) (n4 : ni ≤ 4) (l1 : c.next.length ≤ 3) :
    ∀ (m Y : Nat) (Wb : World), Hid (VisE c b A KB M P Y V ni sn sg cn cg vo Wb) → M < Y → ∀ (u : List Bool) (v : Nat) (w : World), unm u ≤ m → u.length = V → v < V → w.heap[M]? = some (.cells (bools u).toArray 4 (0, 0)) → OneB M Y Wb w →
      Calls Try.prog 121 #[.int .i64 v, .pointer (some ⟨KB, 0, none⟩), .pointer (some ⟨A, 0, none⟩), .pointer (some ⟨P, 0, none⟩)] w (VisPost c M Y Wb u v) := by
  intro m
  induction m with
  | zero =>
    intro Y Wb HE hMY u v w hm hl hv hb hz
    by_cases hon : onB u v
    · exact visit_on c b A KB M P Y V ni sn sg cn cg vo Wb HE v22 u v w hl hv hb hz hon
    · have := unm_set (by omega) hon
      omega
  | succ m ih =>
    intro Y Wb HE hMY u v w hm hl hv hb hz
    by_cases hon : onB u v
    · exact visit_on c b A KB M P Y V ni sn sg cn cg vo Wb HE v22 u v w hl hv hb hz hon
    have hun := unm_set (by omega) hon
    have ck := (HE.out w hz).1.1
    obtain ⟨x, hx⟩ := get_of_lt (l := u) (k := v) (by omega)
    have hxt : x = false := by
      cases x
      · rfl
      · exact absurd (by unfold onB; rw [List.getD_eq_getElem?_getD, hx]; rfl) hon
    subst hxt
    have z1 := bools_cell hb hx
    have z2 : w.frozen? ⟨M, v, none⟩ = false := blk_free hb
    have hb1 := bools_blk_set hb v true
    have hz1 := hz.set v (.bool true)
    have hl1 : (u.set v true).length = V := by simp [hl]
    have hm1 : unm (u.set v true) ≤ m := by omega
    have hvl : v < u.length := by omega
    have HU0 := Lib.hid hz
    have HU := Lib.hid (And.intro hb1 (And.intro hz1 (And.intro hl1 (And.intro hm1 (And.intro hvl ih)))))
    clear hb hz hl hx hb1 hz1 hl1 hm1 hvl hm hun ih
    have e1 := HN.out.2.2.1
    have e2 := HN.out.2.2.2.1
    have eF : (1 : Int) + ni + c.next.length = F := by omega
    have HF := Lib.hid eF
    have eV1 : V ≤ F + c.gates.length := by omega
    have eV2 : F + c.gates.length ≤ V := by omega
    have HCA : Hid (∀ W, OneB M Y Wb W → CirAt W b ni (.slice sn c.next.length cn) (.slice sg c.gates.length cg) vo) := fun W hW => (HE.out W hW).2.1
    clear e1 eF e2
    by_cases hc : F ≤ v
    · obtain ⟨q, hq⟩ : ∃ q : Nat, (v : Int) - (F : Int) = q := ⟨v - F, by omega⟩
      have hvq : v = F + q := by omega
      obtain ⟨g, hg⟩ := get_of_lt (l := c.gates) (k := q) (by omega)
      obtain ⟨⟨a0, a1⟩, b0, b1⟩ := valid_gate HN.out.2.2.2.2 hg
      have hcF : c.first = F := by have h1 := HN.out.1; have h2 := HF.out; unfold Cir.first; omega
      obtain ⟨pa, hpa⟩ : ∃ p : Nat, g.a / 2 = p := ⟨(g.a / 2).toNat, by omega⟩
      obtain ⟨pb, hpb⟩ : ∃ p : Nat, g.b / 2 = p := ⟨(g.b / 2).toNat, by omega⟩
      have hpa2 : pa < V := by omega
      have hpb2 : pb < V := by omega
      have hqg : q < c.gates.length := by omega
      have hge := edge_gate HN.out.1 HN.out.2.2.1 hg
      rw [show (g.a / 2).toNat = pa by omega, show (g.b / 2).toNat = pb by omega, ← hvq] at hge
      obtain ⟨gb, gf, rfl, hgb, -, -⟩ := (HE.out _ HU.out.2.1).2.2.2.gate (Below.refl _ _) hg
      have HS : Hid (∀ W, OneB M Y Wb W → (fun w' => (w'.cell? ⟨A, 0, none⟩ = some (.pointer (some ⟨b, 0, none⟩)) ∧ w'.cell? ⟨P, 0, none⟩ = some (.func (.func (121)) #[] #[.pointer (some ⟨KB, 0, none⟩), .pointer (some ⟨A, 0, none⟩), .pointer (some ⟨P, 0, none⟩)])) ∧ (w'.cell? ⟨b, 0, none⟩ = some (.int .i64 ni) ∧ w'.cell? ⟨b, 1, none⟩ = some (.slice sn c.next.length cn) ∧ w'.cell? ⟨b, 2, none⟩ = some (.slice (some ⟨gb, gf, none⟩) c.gates.length cg)) ∧ w'.cell? ⟨gb, gf + q * 2, none⟩ = some (.int .i64 g.a) ∧ w'.cell? ⟨gb, gf + q * 2 + 1, none⟩ = some (.int .i64 g.b)) W) := fun W hW => by
        obtain ⟨h1, h2, -, h4⟩ := HE.out W hW
        obtain ⟨_, _, e1, -, q1, q2⟩ := h4.gate (Below.refl _ _) hg
        cases e1
        exact ⟨⟨h1.2.1, h1.2.2⟩, ⟨h2.h0, h2.h1, h2.h2⟩, q1, q2⟩
      have HG := Lib.hid (And.intro hge (And.intro hpa hpb))
      clear hge hg hon hvq a1 b1 hgb
      go_enter Try.func121, Try.ntmps121
      go_upto_region 2 with fail
      clear ck z1 z2
      revert HU
      generalize w.setCell ⟨M, v, none⟩ (.bool true) = W1
      intro HU
      obtain ⟨⟨ca, cp⟩, ⟨cb0, cb1, cb2⟩, cg1, cg2⟩ := HS.out _ HU.out.2.1
      go_upto_region 3 with (go_at_call 73; go_loud ((with_reducible refine (firstGate_any _ _ _ _ _ _ _ _ (HCA.out _ HU.out.2.1) (by omega) (by omega)).mono ?_); rintro e w2 ⟨rfl, hd⟩; rw [HF.out]; have H2 := Lib.hid (And.intro (show w2.heap[M]? = some (.cells (bools (u.set v true)).toArray 4 (0, 0)) by rw [hd.heap]; exact HU.out.1) (show OneB M Y Wb w2 from HU.out.2.1.below (hd.below _))); clear hd))
      clear ca cp cb0 cb1 cb2 cg1 cg2
      revert H2
      generalize w2 = W2
      intro H2
      obtain ⟨⟨ca, cp⟩, ⟨cb0, cb1, cb2⟩, cg1, cg2⟩ := HS.out _ H2.out.2
      have w1' : IntKind.i64.wrap (q : Int) = (q : Int) := IntWalk.i64_in _ ⟨by omega, by omega⟩
      go_cut [5] from 18 to 27 (fun s5 wx => ∃ G, s5 = .pointer (some ⟨G, 0, none⟩) ∧ wx.heap[G]? = some (.cells #[.int .i64 g.a, .int .i64 g.b] 38 (0, 0)) ∧ Y ≤ G ∧ wx.heap[M]? = some (.cells (bools (u.set v true)).toArray 4 (0, 0)) ∧ OneB M Y Wb wx)
      case first =>
        refine wp_region_T (fun w' => (w'.cell? ⟨A, 0, none⟩ = some (.pointer (some ⟨b, 0, none⟩)) ∧ w'.cell? ⟨P, 0, none⟩ = some (.func (.func (121)) #[] #[.pointer (some ⟨KB, 0, none⟩), .pointer (some ⟨A, 0, none⟩), .pointer (some ⟨P, 0, none⟩)])) ∧ (w'.cell? ⟨b, 0, none⟩ = some (.int .i64 ni) ∧ w'.cell? ⟨b, 1, none⟩ = some (.slice sn c.next.length cn) ∧ w'.cell? ⟨b, 2, none⟩ = some (.slice (some ⟨gb, gf, none⟩) c.gates.length cg)) ∧ w'.cell? ⟨gb, gf + q * 2, none⟩ = some (.int .i64 g.a) ∧ w'.cell? ⟨gb, gf + q * 2 + 1, none⟩ = some (.int .i64 g.b)) (.q 0 (.q 1 (.q 2 (.q 3 (.q 4 (.q 5 (.two 6 (.q 7 (.q 8 (.q 9 (.e 10 (.e 11 .nil))))) 10 (.e 6 (.q 7 (.q 8 (.q 9 (.e 11 .nil)))))))))))) (by kernel_rfl) (by kernel_rfl) (by kernel_rfl) (HS.out _ H2.out.2.drewZ) ?_
        repeat (first | (refine ordt_s (o := ?_) ?_ ?_ ?_; rotate_left 1; (focus ((simp only [zD, zE, zF]) <;> rfl)); (focus rfl); simp only [Act.put, zA, zB, zC]) | (refine ordt_q (o := ?_) (v := ?_) ?_ ?_ ?_ ?_; rotate_left 2; (focus ((simp only [zD, zE, zF]) <;> rfl)); (focus rfl); (focus (intro w' hS; (try dsimp only at hS); go_split_ands; go_simp; (try (with_reducible rfl)))); simp only [Act.put, zA, zB, zC]))
        refine ordt_two ?_ ?_
        · (refine op_e (o := ?_) ?_ ?_ (fun K hK => ?_); rotate_left 1; (focus ((simp only [zD, zE, zF]) <;> rfl)); (focus rfl); go_simp)
          refine (firstGate_any _ _ _ _ _ _ _ _ (HCA.out _ H2.out.2.drewZ) (by omega) (by omega)).mono ?_
          rintro e w3 ⟨rfl, hd⟩
          rw [HF.out]
          have h3 : OneB M Y Wb w3 := H2.out.2.drewZ.below (hd.below _)
          have hb3 : w3.heap[M]? = some (.cells (bools (u.set v true)).toArray 4 (0, 0)) := by rw [hd.heap]; exact H2.out.1
          refine hK.out _ _ (HS.out _ h3) ?_
          clear hK K hd
          have H3 := Lib.hid (And.intro hb3 h3)
          clear hb3 h3
          (try simp only [Act.put, zA, zB, zC])
          repeat (first | (refine ordt_s (o := ?_) ?_ ?_ ?_; rotate_left 1; (focus ((simp only [zD, zE, zF]) <;> rfl)); (focus rfl); simp only [Act.put, zA, zB, zC]) | (refine ordt_q (o := ?_) (v := ?_) ?_ ?_ ?_ ?_; rotate_left 2; (focus ((simp only [zD, zE, zF]) <;> rfl)); (focus rfl); (focus (intro w' hS; (try dsimp only at hS); go_split_ands; go_simp; (try (with_reducible rfl)))); simp only [Act.put, zA, zB, zC]))
          refine ordt_e ?_
          (refine op_e (o := ?_) ?_ ?_ (fun K hK => ?_); rotate_left 1; (focus ((simp only [zD, zE, zF]) <;> rfl)); (focus rfl); go_simp)
          obtain ⟨G, hG⟩ : ∃ G, G = w3.heap.size := ⟨_, rfl⟩
          have y1 := blk_new w3 (.cells #[.int .i64 0, .int .i64 0] 38)
          have y2 := (Below.refl w3.heap.size w3).alloc (Nat.le_refl _) (.cells #[.int .i64 0, .int .i64 0] 38)
          have y3 : Y ≤ G := by rw [hG]; exact H3.out.2.size
          rw [← hG] at y1 ⊢
          clear hG
          revert y1 y2
          generalize w3.alloc (.cells #[.int .i64 0, .int .i64 0] 38) = w4
          intro y1 y2
          have h4 := H3.out.2.below (y2.mono H3.out.2.size)
          have hb4 := blk_below y2 (blk_lt H3.out.1) H3.out.1
          refine hK.out _ _ (HS.out _ h4) ?_
          clear hK K
          have H4 := Lib.hid (And.intro y1 (And.intro h4 hb4))
          clear y1 y2 h4 hb4
          obtain ⟨rc, rf⟩ := blk_all H4.out.1
          (try simp only [Act.put, zA, zB, zC])
          refine ordt_e ?_
          (refine op_e (o := ?_) ?_ ?_ (fun K hK => ?_); rotate_left 1; (focus ((simp only [zD, zE, zF]) <;> rfl)); (focus rfl); go_simp)
          have hz9 : OneB M Y Wb ((w4.setCell ⟨G, 0, none⟩ (.int .i64 g.a)).setCell ⟨G, 1, none⟩ (.int .i64 g.b)) := H4.out.2.1.below (((Below.refl _ _).setCell (p := ⟨G, 0, none⟩) y3 _).setCell (p := ⟨G, 1, none⟩) y3 _)
          have hx9 : ((w4.setCell ⟨G, 0, none⟩ (.int .i64 g.a)).setCell ⟨G, 1, none⟩ (.int .i64 g.b)).heap[G]? = some (.cells #[.int .i64 g.a, .int .i64 g.b] 38 (0, 0)) := by simpa using blk_set (o := 1) (v := .int .i64 g.b) (blk_set (o := 0) (v := .int .i64 g.a) H4.out.1)
          have hb9 : ((w4.setCell ⟨G, 0, none⟩ (.int .i64 g.a)).setCell ⟨G, 1, none⟩ (.int .i64 g.b)).heap[M]? = some (.cells (bools (u.set v true)).toArray 4 (0, 0)) := by rw [blk_set_ne (by omega) rfl, blk_set_ne (by omega) rfl]; exact H4.out.2.2
          refine hK.out _ _ (HS.out _ hz9) ?_
          clear hK K rc rf
          have H9 := Lib.hid (And.intro hx9 (And.intro hb9 hz9))
          clear hz9 hx9 hb9
          (try simp only [Act.put, zA, zB, zC])
          refine ordt_nil ?_
          go_wp2_with fail
          go_meet
          exact ⟨G, rfl, H9.out.1, y3, H9.out.2.1, H9.out.2.2⟩
        · (refine op_e (o := ?_) ?_ ?_ (fun K hK => ?_); rotate_left 1; (focus ((simp only [zD, zE, zF]) <;> rfl)); (focus rfl); go_simp)
          obtain ⟨G, hG⟩ : ∃ G, G = W2.heap.size := ⟨_, rfl⟩
          have y1 := blk_new W2 (.cells #[.int .i64 0, .int .i64 0] 38)
          have y2 := (Below.refl W2.heap.size W2).alloc (Nat.le_refl _) (.cells #[.int .i64 0, .int .i64 0] 38)
          have y3 : Y ≤ G := by rw [hG]; exact H2.out.2.size
          rw [← hG] at y1 ⊢
          clear hG
          revert y1 y2
          generalize W2.alloc (.cells #[.int .i64 0, .int .i64 0] 38) = w4
          intro y1 y2
          have h4 := H2.out.2.below (y2.mono H2.out.2.size)
          have hb4 := blk_below y2 (blk_lt H2.out.1) H2.out.1
          refine hK.out _ _ (HS.out _ h4.drewZ) ?_
          clear hK K
          have H4 := Lib.hid (And.intro y1 (And.intro h4 hb4))
          clear y1 y2 h4 hb4
          (try simp only [Act.put, zA, zB, zC])
          refine ordt_e ?_
          (refine op_e (o := ?_) ?_ ?_ (fun K hK => ?_); rotate_left 1; (focus ((simp only [zD, zE, zF]) <;> rfl)); (focus rfl); go_simp)
          refine (firstGate_any _ _ _ _ _ _ _ _ (HCA.out _ H4.out.2.1.drewZ) (by omega) (by omega)).mono ?_
          rintro e w5 ⟨rfl, hd⟩
          rw [HF.out]
          have h5 : OneB M Y Wb w5 := H4.out.2.1.drewZ.below (hd.below _)
          have hx5 : w5.heap[G]? = some (.cells #[.int .i64 0, .int .i64 0] 38 (0, 0)) := by rw [hd.heap]; exact H4.out.1
          have hb5 : w5.heap[M]? = some (.cells (bools (u.set v true)).toArray 4 (0, 0)) := by rw [hd.heap]; exact H4.out.2.2
          refine hK.out _ _ (HS.out _ h5) ?_
          clear hK K hd
          have H5 := Lib.hid (And.intro hx5 (And.intro h5 hb5))
          clear hx5 h5 hb5
          (try simp only [Act.put, zA, zB, zC])
          repeat (first | (refine ordt_s (o := ?_) ?_ ?_ ?_; rotate_left 1; (focus ((simp only [zD, zE, zF]) <;> rfl)); (focus rfl); simp only [Act.put, zA, zB, zC]) | (refine ordt_q (o := ?_) (v := ?_) ?_ ?_ ?_ ?_; rotate_left 2; (focus ((simp only [zD, zE, zF]) <;> rfl)); (focus rfl); (focus (intro w' hS; (try dsimp only at hS); go_split_ands; go_simp; (try (with_reducible rfl)))); simp only [Act.put, zA, zB, zC]))
          obtain ⟨rc, rf⟩ := blk_all H5.out.1
          refine ordt_e ?_
          (refine op_e (o := ?_) ?_ ?_ (fun K hK => ?_); rotate_left 1; (focus ((simp only [zD, zE, zF]) <;> rfl)); (focus rfl); go_simp)
          have hz9 : OneB M Y Wb ((w5.setCell ⟨G, 0, none⟩ (.int .i64 g.a)).setCell ⟨G, 1, none⟩ (.int .i64 g.b)) := H5.out.2.1.below (((Below.refl _ _).setCell (p := ⟨G, 0, none⟩) y3 _).setCell (p := ⟨G, 1, none⟩) y3 _)
          have hx9 : ((w5.setCell ⟨G, 0, none⟩ (.int .i64 g.a)).setCell ⟨G, 1, none⟩ (.int .i64 g.b)).heap[G]? = some (.cells #[.int .i64 g.a, .int .i64 g.b] 38 (0, 0)) := by simpa using blk_set (o := 1) (v := .int .i64 g.b) (blk_set (o := 0) (v := .int .i64 g.a) H5.out.1)
          have hb9 : ((w5.setCell ⟨G, 0, none⟩ (.int .i64 g.a)).setCell ⟨G, 1, none⟩ (.int .i64 g.b)).heap[M]? = some (.cells (bools (u.set v true)).toArray 4 (0, 0)) := by rw [blk_set_ne (by omega) rfl, blk_set_ne (by omega) rfl]; exact H5.out.2.2
          refine hK.out _ _ (HS.out _ hz9) ?_
          clear hK K rc rf
          have H9 := Lib.hid (And.intro hx9 (And.intro hb9 hz9))
          clear hz9 hx9 hb9
          (try simp only [Act.put, zA, zB, zC])
          refine ordt_nil ?_
          go_wp2_with fail
          go_meet
          exact ⟨G, rfl, H9.out.1, y3, H9.out.2.1, H9.out.2.2⟩
      case rest =>
        obtain ⟨G, rfl, hx, hGY, hbm, hz⟩ := hcut
        have HG3 := Lib.hid (And.intro hx (And.intro hbm hz))
        have ccg := (blk_all hx).1
        obtain ⟨⟨ca, cp⟩, -, -, -⟩ := HS.out _ hz
        have HE3 : Hid (VisE c b A KB M P wc.heap.size V ni sn (some ⟨gb, gf, none⟩) cn cg vo wc) := fun W hW => HE.out W (hz.trans (hW.up hz.size))
        have hGl := blk_lt hx
        have hMl := blk_lt hbm
        clear hx hbm hz
        go_upto_region 5 with (go_at_call 121; ((with_reducible refine (HU.out.2.2.2.2.2 wc.heap.size wc HE3 hMl (u.set v true) pa _ HU.out.2.2.2.1 HU.out.2.2.1 hpa2 HG3.out.2.1 (OneB.refl (Nat.le_refl _))).mono ?_); rintro e w6 ⟨rfl, t, ht, hb6, hz6⟩; have H6 := Lib.hid (And.intro ht (And.intro hb6 hz6)); clear ht hb6 hz6))
        have hGM : G ≠ M := by omega
        have hx6 := H6.out.2.2.1.blk HG3.out.1 (fun e => by rcases e with e | e; exact hGM e; omega)
        have hz6 := HG3.out.2.2.trans (H6.out.2.2.up HG3.out.2.2.size)
        clear ccg ca cp
        have ccg := (blk_all hx6).1
        obtain ⟨⟨ca, cp⟩, -, -, -⟩ := HS.out _ hz6
        have HE6 : Hid (VisE c b A KB M P w6.heap.size V ni sn (some ⟨gb, gf, none⟩) cn cg vo w6) := fun W hW => HE.out W (hz6.trans (hW.up hz6.size))
        have hMl6 := blk_lt H6.out.2.1
        have hl6 : t.length = V := by rw [H6.out.1.len]; exact HU.out.2.2.1
        have hm6 : unm t ≤ m := Nat.le_trans (unm_mono H6.out.1.len.symm H6.out.1.mono) HU.out.2.2.2.1
        have H6z := Lib.hid hz6
        clear hx6 hz6
        go_wp2_with (go_at_call 121; ((with_reducible refine (HU.out.2.2.2.2.2 w6.heap.size w6 HE6 hMl6 t pb _ hm6 hl6 hpb2 H6.out.2.1 (OneB.refl (Nat.le_refl _))).mono ?_); rintro e w7 ⟨rfl, s, hs, hb7, hz7⟩; have H7 := Lib.hid (And.intro hs (And.intro hb7 hz7)); clear hs hb7 hz7))
        exact bodyPost_end (v := .tuple #[]) (by simp [results, Try.results121, go_sem]) rfl ⟨rfl, s, VisP.two HU.out.2.2.2.2.1 (fun y h => (HG.out.1 y).1 h) ((HG.out.1 pa).2 (.inl rfl)) ((HG.out.1 pb).2 (.inr rfl)) H6.out.1 H7.out.1, H7.out.2.1, H6z.out.trans (H7.out.2.2.up H6z.out.size)⟩
    · have hcF : ¬ (F ≤ v) := hc
      by_cases hni : v ≤ ni
      · have hei := edge_inp HN.out.1 hni
        have HG := Lib.hid hei
        obtain ⟨h1, h2, -, -⟩ := HE.out w HU0.out
        obtain ⟨ca, cp⟩ := h1.2
        clear h1 hei hon
        go_enter Try.func121, Try.ntmps121
        go_upto_region 2 with fail
        clear ck z1 z2 ca cp h2
        revert HU
        generalize w.setCell ⟨M, v, none⟩ (.bool true) = W1
        intro HU
        obtain ⟨⟨-, ca, cp⟩, -, -, -⟩ := HE.out _ HU.out.2.1
        have hlt : ¬ (F : Int) ≤ (v : Int) := by omega
        go_wp2_with (first
          | (go_at_call 73; ((with_reducible refine (firstGate_any _ _ _ _ _ _ _ _ (HCA.out _ HU.out.2.1) (by omega) (by omega)).mono ?_); rintro e w2 ⟨rfl, hd⟩; rw [HF.out]; have H2 := Lib.hid (And.intro (show w2.heap[M]? = some (.cells (bools (u.set v true)).toArray 4 (0, 0)) by rw [hd.heap]; exact HU.out.1) (show OneB M Y Wb w2 from HU.out.2.1.below (hd.below _))); clear hd ca cp; obtain ⟨⟨-, ca, cp⟩, -, -, -⟩ := HE.out _ H2.out.2))
          | (go_at_call 81; ((with_reducible refine (isLatch_any _ _ _ _ _ _ _ _ _ (HCA.out _ H2.out.2) (by omega) (by omega)).mono ?_); rintro e w3 ⟨rfl, hd⟩; rw [decide_eq_false (by omega)]; have H3 := Lib.hid (And.intro (show w3.heap[M]? = some (.cells (bools (u.set v true)).toArray 4 (0, 0)) by rw [hd.heap]; exact H2.out.1) (show OneB M Y Wb w3 from H2.out.2.below (hd.below _))); clear hd)))
        exact bodyPost_end (v := .tuple #[]) (by simp [results, Try.results121, go_sem]) rfl ⟨rfl, _, VisP.leaf HU.out.2.2.2.2.1 HG.out, H3.out.1, H3.out.2⟩
      · obtain ⟨p, hp⟩ : ∃ p : Nat, (v : Int) - 1 = p := ⟨v - 1, by omega⟩
        obtain ⟨q, hq⟩ : ∃ q : Nat, (p : Int) - (ni : Int) = q := ⟨v - 1 - ni, by omega⟩
        have hvq : v = 1 + ni + q := by omega
        have hFn := HF.out
        have hqn : q < c.next.length := by omega
        obtain ⟨l, hl⟩ := get_of_lt hqn
        obtain ⟨l0, l2⟩ : 0 ≤ l ∧ l / 2 < (V : Int) := by
          have h1 : 0 ≤ l ∧ l < 2 * c.vars := HN.out.2.2.2.2.next l (List.mem_of_getElem? hl)
          have h2 := HN.out.2.1
          omega
        obtain ⟨pa, hpa⟩ : ∃ p : Nat, l / 2 = p := ⟨(l / 2).toNat, by omega⟩
        have hpa2 : pa < V := by omega
        have hge := edge_latch HN.out.1 hl
        rw [show (l / 2).toNat = pa by omega, ← hvq] at hge
        obtain ⟨nb, nf, rfl, hnb, -⟩ := (HE.out _ HU.out.2.1).2.2.1.int (Below.refl _ _) hl
        have HS : Hid (∀ W, OneB M Y Wb W → (fun w' => (w'.cell? ⟨A, 0, none⟩ = some (.pointer (some ⟨b, 0, none⟩)) ∧ w'.cell? ⟨P, 0, none⟩ = some (.func (.func (121)) #[] #[.pointer (some ⟨KB, 0, none⟩), .pointer (some ⟨A, 0, none⟩), .pointer (some ⟨P, 0, none⟩)])) ∧ (w'.cell? ⟨b, 0, none⟩ = some (.int .i64 ni) ∧ w'.cell? ⟨b, 1, none⟩ = some (.slice (some ⟨nb, nf, none⟩) c.next.length cn)) ∧ w'.cell? ⟨nb, nf + q, none⟩ = some (.int .i64 l)) W) := fun W hW => by
          obtain ⟨h1, h2, h3, -⟩ := HE.out W hW
          obtain ⟨_, _, e1, -, q1⟩ := h3.int (Below.refl _ _) hl
          cases e1
          exact ⟨⟨h1.2.1, h1.2.2⟩, ⟨h2.h0, h2.h1⟩, q1⟩
        have HG := Lib.hid (And.intro hge hpa)
        have htd : l.tdiv 2 = (pa : Int) := by rw [Int.tdiv_eq_ediv_of_nonneg l0]; exact hpa
        have wp1 : IntKind.i64.wrap (p : Int) = (p : Int) := IntWalk.i64_in _ ⟨by omega, by omega⟩
        have wq1 : IntKind.i64.wrap (q : Int) = (q : Int) := IntWalk.i64_in _ ⟨by omega, by omega⟩
        have wpa : IntKind.i64.wrap (pa : Int) = (pa : Int) := IntWalk.i64_in _ ⟨by omega, by omega⟩
        have hlv : (ni : Int) < (v : Int) ∧ (v : Int) < 1 + (ni : Int) + (c.next.length : Int) := by omega
        have HLV := Lib.hid hlv
        clear hge hl hon hvq hnb hFn hlv
        go_enter Try.func121, Try.ntmps121
        go_upto_region 2 with fail
        clear ck z1 z2
        revert HU
        generalize w.setCell ⟨M, v, none⟩ (.bool true) = W1
        intro HU
        obtain ⟨⟨ca, cp⟩, -, -⟩ := HS.out _ HU.out.2.1
        have hlt : ¬ (F : Int) ≤ (v : Int) := by omega
        go_upto_region 7 with (first
          | (go_at_call 73; ((with_reducible refine (firstGate_any _ _ _ _ _ _ _ _ (HCA.out _ HU.out.2.1) (by omega) (by omega)).mono ?_); rintro e w2 ⟨rfl, hd⟩; rw [HF.out]; have H2 := Lib.hid (And.intro (show w2.heap[M]? = some (.cells (bools (u.set v true)).toArray 4 (0, 0)) by rw [hd.heap]; exact HU.out.1) (show OneB M Y Wb w2 from HU.out.2.1.below (hd.below _))); clear hd ca cp; obtain ⟨⟨ca, cp⟩, -, -⟩ := HS.out _ H2.out.2))
          | (go_at_call 81; ((with_reducible refine (isLatch_any _ _ _ _ _ _ _ _ _ (HCA.out _ H2.out.2) (by omega) (by omega)).mono ?_); rintro e w3 ⟨rfl, hd⟩; rw [decide_eq_true HLV.out]; have H3 := Lib.hid (And.intro (show w3.heap[M]? = some (.cells (bools (u.set v true)).toArray 4 (0, 0)) by rw [hd.heap]; exact H2.out.1) (show OneB M Y Wb w3 from H2.out.2.below (hd.below _))); clear hd ca cp)))
        refine wp_region_T (fun w' => (w'.cell? ⟨A, 0, none⟩ = some (.pointer (some ⟨b, 0, none⟩)) ∧ w'.cell? ⟨P, 0, none⟩ = some (.func (.func (121)) #[] #[.pointer (some ⟨KB, 0, none⟩), .pointer (some ⟨A, 0, none⟩), .pointer (some ⟨P, 0, none⟩)])) ∧ (w'.cell? ⟨b, 0, none⟩ = some (.int .i64 ni) ∧ w'.cell? ⟨b, 1, none⟩ = some (.slice (some ⟨nb, nf, none⟩) c.next.length cn)) ∧ w'.cell? ⟨nb, nf + q, none⟩ = some (.int .i64 l)) (.q 0 (.q 1 (.q 2 (.q 3 (.q 4 (.q 5 (.q 6 (.q 7 (.q 8 (.q 9 (.q 10 (.q 11 (.q 12 (.q 13 (.q 14 (.e 15 .nil)))))))))))))))) (by kernel_rfl) (by kernel_rfl) (by kernel_rfl) (HS.out _ H3.out.2.drewZ) ?_
        repeat (first | (refine ordt_s (o := ?_) ?_ ?_ ?_; rotate_left 1; (focus ((simp only [zD, zE, zF]) <;> rfl)); (focus rfl); simp only [Act.put, zA, zB, zC]) | (refine ordt_q (o := ?_) (v := ?_) ?_ ?_ ?_ ?_; rotate_left 2; (focus ((simp only [zD, zE, zF]) <;> rfl)); (focus rfl); (focus (intro w' hS; (try dsimp only at hS); go_split_ands; go_simp; (try (with_reducible rfl)))); simp only [Act.put, zA, zB, zC]))
        refine ordt_e ?_
        (refine op_e (o := ?_) ?_ ?_ (fun K hK => ?_); rotate_left 1; (focus ((simp only [zD, zE, zF]) <;> rfl)); (focus rfl); go_simp)
        have HE3 : Hid (VisE c b A KB M P w3.drew.heap.size V ni (some ⟨nb, nf, none⟩) sg cn cg vo w3.drew) := fun W hW => HE.out W (H3.out.2.drewZ.trans (hW.up H3.out.2.drewZ.size))
        have hMl : M < w3.drew.heap.size := blk_lt H3.out.1
        refine (HU.out.2.2.2.2.2 w3.drew.heap.size w3.drew HE3 hMl (u.set v true) pa w3.drew HU.out.2.2.2.1 HU.out.2.2.1 hpa2 H3.out.1 (OneB.refl (Nat.le_refl _))).mono ?_
        rintro e w6 ⟨rfl, t, ht, hb6, hz6⟩
        have hz9 := H3.out.2.drewZ.trans (hz6.up H3.out.2.drewZ.size)
        refine hK.out _ _ (HS.out _ hz9) ?_
        clear hK K
        have H9 := Lib.hid (And.intro ht (And.intro hb6 hz9))
        clear ht hb6 hz6 hz9
        (try simp only [Act.put, zA, zB, zC])
        refine ordt_nil ?_
        go_wp2_with fail
        exact bodyPost_end (v := .tuple #[]) (by simp [results, Try.results121, go_sem]) rfl ⟨rfl, t, VisP.one HU.out.2.2.2.2.1 (fun y h => (HG.out.1 y).1 h) ((HG.out.1 pa).2 rfl) H9.out.1, H9.out.2.1, H9.out.2.2⟩

/-! neededLatches of the program. -/

/-- After the first outputs are visited. -/
structure NeedK (c : Cir) (V k : Nat) (u : List Bool) : Prop where
  len : u.length = V
  root : ∀ l ∈ c.outs.take k, onB u (l / 2).toNat
  clos : closV c (onB u)
  least : ∀ T : Nat → Prop, (∀ l ∈ c.outs, T (l / 2).toNat) → closV c T → ∀ v, onB u v → T v

theorem NeedK.zero (c : Cir) (V : Nat) : NeedK c V 0 (List.replicate V false) := by
  have h0 : ∀ v, ¬ onB (List.replicate V false) v := fun v h => by
    unfold onB at h
    rw [List.getD_eq_getElem?_getD, List.getElem?_replicate] at h
    split at h <;> simp at h
  exact ⟨by simp, by simp, fun v u h => absurd h (h0 v), fun T _ _ v h => absurd h (h0 v)⟩

theorem NeedK.step {c : Cir} {V k p : Nat} {u t : List Bool} {l : Int} (h : NeedK c V k u) (hl : c.outs[k]? = some l) (hp : (l / 2).toNat = p) (hv : VisP c u p t) : NeedK c V (k + 1) t := by
  have hm : c.outs.take (k + 1) = c.outs.take k ++ [l] := by rw [List.take_add_one, hl]; rfl
  refine ⟨hv.len.trans h.len, fun x hx => ?_, fun v y h1 e => ?_, fun T h1 h2 v hx => ?_⟩
  · rw [hm] at hx
    rcases List.mem_append.1 hx with hx | hx
    · exact hv.mono _ (h.root x hx)
    · obtain rfl := List.mem_singleton.1 hx
      rw [hp]; exact hv.on
  · by_cases e1 : onB u v
    · exact hv.mono _ (h.clos v y e1 e)
    · exact hv.clos v y h1 e1 e
  · rcases hv.least T h2 (by rw [← hp]; exact h1 l (List.mem_of_getElem? hl)) v hx with e | e
    · exact h.least T h1 h2 v e
    · exact e

theorem NeedK.done {c : Cir} {V : Nat} {u : List Bool} (hv : c.valid) (hV : c.vars = V) (h : NeedK c V c.outs.length u) : u = usedW c :=
  least_eq hv (by rw [h.len, hV, Int.toNat_natCast]) ⟨fun l hl => h.root l (by rw [List.take_length]; exact hl), h.clos, h.least⟩

set_option maxRecDepth 100000 in
set_option maxHeartbeats 3200000 in
theorem neededLatches_any (b : Nat) (sn sg so : Option Addr) (cn cg co : Nat) (c : Cir) (w : World) (h : CirAt w b c.inp (.slice sn c.next.length cn) (.slice sg c.gates.length cg) (.slice so c.outs.length co)) (hn : Sl w sn (ints c.next)) (hg : Sl w sg (gcells c.gates)) (ho : Sl w so (ints c.outs)) (hv : c.valid) :
    Calls Try.prog 82 #[.pointer (some ⟨b, 0, none⟩)] w fun e w' => ∃ M, e = .returned (.slice (some ⟨M, 0, none⟩) c.vars.toNat c.vars.toNat) ∧ w'.heap[M]? = some (.cells (bools (usedW c)).toArray 4 (0, 0)) ∧ w.heap.size ≤ M ∧ Below w.heap.size w w' := by
  have HBl : Hid (b < w.heap.size) := World.block_lt_of_cell? w _ h.h0
  obtain ⟨i0, i1, l1, l2, l3⟩ := id hv.lim
  obtain ⟨ni, hni⟩ : ∃ ni : Nat, c.inp = ni := ⟨c.inp.toNat, by omega⟩
  have n4 : ni ≤ 4 := by omega
  obtain ⟨V, hV⟩ : ∃ V : Nat, c.vars = V := ⟨c.vars.toNat, by unfold Cir.vars; omega⟩
  obtain ⟨F, hF⟩ : ∃ F : Nat, F = 1 + ni + c.next.length := ⟨_, rfl⟩
  have hVF : V = F + c.gates.length := by unfold Cir.vars at hV; omega
  have f8 : F ≤ 8 := by omega
  have v22 : V ≤ 22 := by omega
  have HN := Lib.hid (And.intro hni (And.intro hV (And.intro hF (And.intro hVF hv))))
  have HB : Hid (∀ W, Below w.heap.size w W → CirAt W b ni (.slice sn c.next.length cn) (.slice sg c.gates.length cg) (.slice so c.outs.length co) ∧ Sl W sn (ints c.next) ∧ Sl W sg (gcells c.gates) ∧ Sl W so (ints c.outs)) := fun W hb => by
    rw [← hni]
    exact ⟨⟨(hb.cell (p := ⟨b, 0, none⟩) HBl.out).trans h.h0, (hb.cell (p := ⟨b, 1, none⟩) HBl.out).trans h.h1, (hb.cell (p := ⟨b, 2, none⟩) HBl.out).trans h.h2, (hb.cell (p := ⟨b, 3, none⟩) HBl.out).trans h.h3⟩, hn.mono hb, hg.mono hb, ho.mono hb⟩
  have HEV : Hid (1 + (ni : Int) + (c.next.length : Int) + (c.gates.length : Int) = (V : Int)) := by
    show 1 + (ni : Int) + (c.next.length : Int) + (c.gates.length : Int) = (V : Int)
    omega
  rw [hV, Int.toNat_natCast]
  clear h hn hg ho hv hV hF hVF hni i0 i1
  have hmk := fun W => mkBools W V (by omega)
  go_enter Try.func82, Try.ntmps82
  go_upto_region 3 with (go_at_call 69; ((with_reducible refine (vars_any _ _ _ _ _ _ _ _ _ _ (HB.out _ ((Below.refl w.heap.size w).alloc (Nat.le_refl _) _)).1 (by omega) (by omega) (by omega)).mono ?_); rintro e w1 ⟨rfl, hq⟩; rw [HEV.out]; have H1 := Lib.hid hq; clear hq))
  obtain ⟨A, hA⟩ : ∃ A, A = w.heap.size := ⟨_, rfl⟩
  obtain ⟨M, hM⟩ : ∃ M, M = w1.heap.size := ⟨_, rfl⟩
  have hw1 : w1.heap = (w.alloc (.cells #[.pointer (some ⟨b, 0, none⟩)] 78)).heap := H1.out.heap
  have hs1 : M = A + 1 := by rw [hM, hA, hw1]; simp
  have zA : w1.heap[A]? = some (.cells #[.pointer (some ⟨b, 0, none⟩)] 78 (0, 0)) := by rw [hw1, hA]; exact blk_new w _
  have hbw : Below w.heap.size w w1 := ((Below.refl w.heap.size w).alloc (Nat.le_refl _) _).trans (H1.out.below _)
  have z4 : ((((w1.alloc (.cells (bools (List.replicate V false)).toArray 4)).alloc (.cells #[.slice (some ⟨w1.heap.size, 0, none⟩) V V] 39)).alloc (.cells #[.nilFunc] 128))).heap[A]? = some (.cells #[.pointer (some ⟨b, 0, none⟩)] 78 (0, 0)) := blk_old (blk_old (blk_old zA))
  have z1 : ((((w1.alloc (.cells (bools (List.replicate V false)).toArray 4)).alloc (.cells #[.slice (some ⟨w1.heap.size, 0, none⟩) V V] 39)).alloc (.cells #[.nilFunc] 128))).heap[M]? = some (.cells (bools (List.replicate V false)).toArray 4 (0, 0)) := by rw [hM]; exact blk_old (blk_old (blk_new _ _))
  have z2 : ((((w1.alloc (.cells (bools (List.replicate V false)).toArray 4)).alloc (.cells #[.slice (some ⟨w1.heap.size, 0, none⟩) V V] 39)).alloc (.cells #[.nilFunc] 128))).heap[M + 1]? = some (.cells #[.slice (some ⟨M, 0, none⟩) V V] 39 (0, 0)) := by rw [hM]; exact blk_old (blk_at (by simp))
  have z3 : ((((w1.alloc (.cells (bools (List.replicate V false)).toArray 4)).alloc (.cells #[.slice (some ⟨w1.heap.size, 0, none⟩) V V] 39)).alloc (.cells #[.nilFunc] 128))).heap[M + 1 + 1]? = some (.cells #[.nilFunc] 128 (0, 0)) := by rw [hM]; exact blk_at (by simp)
  have z5 : Below w.heap.size w ((((w1.alloc (.cells (bools (List.replicate V false)).toArray 4)).alloc (.cells #[.slice (some ⟨w1.heap.size, 0, none⟩) V V] 39)).alloc (.cells #[.nilFunc] 128))) := (((hbw.alloc hbw.size _).alloc (by simp; have := hbw.size; omega) _).alloc (by simp; have := hbw.size; omega) _)
  have HMA := Lib.hid hs1
  clear hmk H1 hw1 zA hbw hs1
  rw [← hM] at z1 z2 z3 z4 z5 ⊢
  rw [← hA]
  clear hM
  have HA := Lib.hid hA
  clear hA
  revert z1 z2 z3 z4 z5
  generalize ((((w1.alloc (.cells (bools (List.replicate V false)).toArray 4)).alloc (.cells #[.slice (some ⟨M, 0, none⟩) V V] 39)).alloc (.cells #[.nilFunc] 128))) = W3
  intro z4 z1 z2 z3 z5
  obtain ⟨cp, cpf⟩ := blk_all z3
  have HZ := Lib.hid (And.intro z1 (And.intro z2 (And.intro z3 (And.intro z4 z5))))
  clear z1 z2 z3 z4 z5
  go_upto_region 4 with fail
  clear cp cpf
  have zP : (W3.setCell ⟨M + 1 + 1, 0, none⟩ (.func (.func (121)) #[] #[.pointer (some ⟨M + 1, 0, none⟩), .pointer (some ⟨A, 0, none⟩), .pointer (some ⟨M + 1 + 1, 0, none⟩)])).heap[M + 1 + 1]? = some (.cells #[.func (.func (121)) #[] #[.pointer (some ⟨M + 1, 0, none⟩), .pointer (some ⟨A, 0, none⟩), .pointer (some ⟨M + 1 + 1, 0, none⟩)]] 128 (0, 0)) := by simpa using blk_set (o := 0) (v := .func (.func (121)) #[] #[.pointer (some ⟨M + 1, 0, none⟩), .pointer (some ⟨A, 0, none⟩), .pointer (some ⟨M + 1 + 1, 0, none⟩)]) HZ.out.2.2.1
  have zM : (W3.setCell ⟨M + 1 + 1, 0, none⟩ (.func (.func (121)) #[] #[.pointer (some ⟨M + 1, 0, none⟩), .pointer (some ⟨A, 0, none⟩), .pointer (some ⟨M + 1 + 1, 0, none⟩)])).heap[M]? = some (.cells (bools (List.replicate V false)).toArray 4 (0, 0)) := by rw [blk_set_ne (by omega) rfl]; exact HZ.out.1
  have zK : (W3.setCell ⟨M + 1 + 1, 0, none⟩ (.func (.func (121)) #[] #[.pointer (some ⟨M + 1, 0, none⟩), .pointer (some ⟨A, 0, none⟩), .pointer (some ⟨M + 1 + 1, 0, none⟩)])).heap[M + 1]? = some (.cells #[.slice (some ⟨M, 0, none⟩) V V] 39 (0, 0)) := by rw [blk_set_ne (by omega) rfl]; exact HZ.out.2.1
  have zA : (W3.setCell ⟨M + 1 + 1, 0, none⟩ (.func (.func (121)) #[] #[.pointer (some ⟨M + 1, 0, none⟩), .pointer (some ⟨A, 0, none⟩), .pointer (some ⟨M + 1 + 1, 0, none⟩)])).heap[A]? = some (.cells #[.pointer (some ⟨b, 0, none⟩)] 78 (0, 0)) := by rw [blk_set_ne (by have := HMA.out; omega) rfl]; exact HZ.out.2.2.2.1
  have zW : Below w.heap.size w (W3.setCell ⟨M + 1 + 1, 0, none⟩ (.func (.func (121)) #[] #[.pointer (some ⟨M + 1, 0, none⟩), .pointer (some ⟨A, 0, none⟩), .pointer (some ⟨M + 1 + 1, 0, none⟩)])) := HZ.out.2.2.2.2.setCell (p := ⟨M + 1 + 1, 0, none⟩) (by have := HMA.out; have := HA.out; simp; omega) _
  clear HZ
  revert zP zM zK zA zW
  generalize W3.setCell ⟨M + 1 + 1, 0, none⟩ (.func (.func (121)) #[] #[.pointer (some ⟨M + 1, 0, none⟩), .pointer (some ⟨A, 0, none⟩), .pointer (some ⟨M + 1 + 1, 0, none⟩)]) = Wb
  intro zP zM zK zA zW
  obtain ⟨Y, hY⟩ : ∃ Y, Y = Wb.heap.size := ⟨_, rfl⟩
  have hPY : M + 1 + 1 < Y := by rw [hY]; exact blk_lt zP
  have hwM : w.heap.size ≤ M := by have := HMA.out; have := HA.out; omega
  have HBW : Hid (∀ W, OneB M Y Wb W → Below w.heap.size w W) := fun W hW => zW.trans (hW.below2 hwM (by omega))
  have HE : Hid (VisE c b A (M + 1) M (M + 1 + 1) Y V ni sn sg cn cg (.slice so c.outs.length co) Wb) := fun W hW =>
    ⟨⟨blk_cell (hW.1.blk zK (fun e => by rcases e with e | e <;> omega)), blk_cell (hW.1.blk zA (fun e => by have := HMA.out; rcases e with e | e <;> omega)), blk_cell (hW.1.blk zP (fun e => by rcases e with e | e <;> omega))⟩, (HB.out W (HBW.out W hW)).1, (HB.out W (HBW.out W hW)).2.1, (HB.out W (HBW.out W hW)).2.2.1⟩
  have HI := Lib.hid (And.intro zM (OneB.refl (X := M) (Y := Y) (w := Wb) (Nat.le_of_eq hY)))
  have hMY : M < Y := by omega
  clear zP zM zK zA zW hY
  obtain ⟨⟨-, ca, -⟩, -, -, -⟩ := HE.out _ HI.out.2
  obtain ⟨cb0, cb1, cb2, cb3⟩ := (HB.out _ (HBW.out _ HI.out.2)).1
  go_upto_region 5 with fail
  trace_state
  clear ca cb0 cb1 cb2 cb3
  go_loopw [16] (fun i wr => ∃ (k : Nat) (u : List Bool), k ≤ c.outs.length ∧ i = .int .i64 k ∧ NeedK c V k u ∧ wr.heap[M]? = some (.cells (bools u).toArray 4 (0, 0)) ∧ OneB M Y Wb wr) (fun i _ => c.outs.length - (intOf i).toNat)
  case atStart => exact ⟨0, _, Nat.zero_le _, rfl, NeedK.zero c V, HI.out.1, HI.out.2⟩
  case round =>
    obtain ⟨k, u, hk, rfl, hnk, hbm, hz⟩ := hrel
    obtain ⟨⟨ck, -, cp⟩, -, -, -⟩ := HE.out _ hz
    by_cases hlt : k < c.outs.length
    · obtain ⟨l, hl⟩ := get_of_lt hlt
      obtain ⟨ob, of_, rfl, -, zo⟩ := (HB.out _ (HBW.out _ hz)).2.2.2.int (Below.refl _ _) hl
      obtain ⟨l0, l4⟩ : 0 ≤ l ∧ l / 2 < (V : Int) := by
        have h1 : 0 ≤ l ∧ l < 2 * c.vars := HN.out.2.2.2.2.outs l (List.mem_of_getElem? hl)
        have h2 := HN.out.2.1
        omega
      obtain ⟨p, hp⟩ : ∃ p : Nat, l / 2 = p := ⟨(l / 2).toNat, by omega⟩
      have hpV : p < V := by omega
      have HE3 : Hid (VisE c b A (M + 1) M (M + 1 + 1) wr.heap.size V ni sn sg cn cg (.slice (some ⟨ob, of_, none⟩) c.outs.length co) wr) := fun W hW => HE.out W (hz.trans (hW.up hz.size))
      have hMl := blk_lt hbm
      have HR := Lib.hid (And.intro hnk (And.intro hbm (And.intro hz (And.intro hl (show (l / 2).toNat = p by omega)))))
      clear hnk hbm hz hl ck
      go_wp2_with (go_at_call 121; ((with_reducible refine (visit_any c b A (M + 1) M (M + 1 + 1) V F ni sn sg cn cg _ HN v22 f8 n4 l1 (unm u) wr.heap.size wr HE3 hMl u p _ (Nat.le_refl _) HR.out.1.len hpV HR.out.2.1 (OneB.refl (Nat.le_refl _))).mono ?_); rintro e w6 ⟨rfl, t, ht, hb6, hz6⟩; have H6 := Lib.hid (And.intro ht (And.intro hb6 hz6)); clear ht hb6 hz6 zo cp))
      go_roundw
      case rel => exact ⟨k + 1, t, by omega, by go_num, HR.out.1.step HR.out.2.2.2.1 HR.out.2.2.2.2 H6.out.1, H6.out.2.1, HR.out.2.2.1.trans (H6.out.2.2.up HR.out.2.2.1.size)⟩
      case measure => simp [intOf]; omega
    · obtain rfl : k = c.outs.length := by omega
      have hu := NeedK.done HN.out.2.2.2.2 HN.out.2.1 hnk
      subst hu
      have HR := Lib.hid (And.intro hbm (HBW.out _ hz))
      clear hnk hbm hz cp
      go_wp2_with fail
      go_ret
      exact ⟨M, rfl, HR.out.1, hwM, HR.out.2⟩

/-! RemoveLatches of the program: where each variable goes, and the closure that renames. -/

def plJ (c : Cir) (V F k : Nat) : List Int := (List.range V).map fun (v : Nat) => if v < k ∧ v < F then ((plW c v : Nat) : Int) else 0

def plL (c : Cir) (V k : Nat) : List Int := (List.range V).map fun (v : Nat) => if v < k then ((plW c v : Nat) : Int) else 0

theorem plJ_zero (c : Cir) (V F : Nat) : plJ c V F 0 = List.replicate V 0 := by
  apply List.ext_getElem
  · simp [plJ]
  · intro i h1 h2; simp [plJ]

theorem plJ_set {c : Cir} {V F k : Nat} (h : k < F) : (plJ c V F k).set k ((plW c k : Nat) : Int) = plJ c V F (k + 1) := by
  apply List.ext_getElem
  · simp [plJ]
  · intro i h1 h2
    rw [List.getElem_set]
    simp only [plJ, List.getElem_map, List.getElem_range]
    by_cases e : k = i
    · subst e; rw [if_pos rfl, if_pos ⟨by omega, h⟩]
    · rw [if_neg e]
      by_cases e2 : i < k ∧ i < F
      · rw [if_pos e2, if_pos ⟨by omega, e2.2⟩]
      · rw [if_neg e2, if_neg (by omega)]

theorem plJ_same {c : Cir} {V F k : Nat} (h : plW c k = 0 ∨ F ≤ k) : plJ c V F (k + 1) = plJ c V F k := by
  apply List.map_congr_left
  intro v hv
  by_cases e : v = k
  · subst e
    rcases h with h | h
    · rw [h]; simp
    · rw [if_neg (by omega), if_neg (by omega)]
  · by_cases e2 : v < k ∧ v < F
    · rw [if_pos e2, if_pos ⟨by omega, e2.2⟩]
    · rw [if_neg e2, if_neg (by omega)]

theorem plJ_done {c : Cir} {V F : Nat} : plJ c V F V = plL c V F := by
  apply List.map_congr_left
  intro v hv
  have := List.mem_range.1 hv
  by_cases e : v < F
  · rw [if_pos ⟨this, e⟩, if_pos e]
  · rw [if_neg (by omega), if_neg e]

theorem plL_set {c : Cir} {V k : Nat} : (plL c V k).set k ((plW c k : Nat) : Int) = plL c V (k + 1) := by
  apply List.ext_getElem
  · simp [plL]
  · intro i h1 h2
    rw [List.getElem_set]
    simp only [plL, List.getElem_map, List.getElem_range]
    by_cases e : k = i
    · subst e; rw [if_pos rfl, if_pos (by omega)]
    · rw [if_neg e]
      by_cases e2 : i < k
      · rw [if_pos e2, if_pos (by omega)]
      · rw [if_neg e2, if_neg (by omega)]

theorem plL_get {c : Cir} {V v : Nat} (h : v < V) : (plL c V V)[v]? = some ((plW c v : Nat) : Int) := by
  unfold plL
  rw [List.getElem?_map, List.getElem?_range h]
  simp [h]

theorem plJ_length (c : Cir) (V F k : Nat) : (plJ c V F k).length = V := by simp [plJ]

theorem plL_length (c : Cir) (V k : Nat) : (plL c V k).length = V := by simp [plL]

theorem useRm_any (c : Cir) (PV PL V : Nat) (l : Int) (w : World) (h1 : w.cell? ⟨PV, 0, none⟩ = some (.slice (some ⟨PL, 0, none⟩) V V)) (h2 : w.heap[PL]? = some (.cells (ints (plL c V V)).toArray 3 (0, 0))) (l0 : 0 ≤ l) (l2 : l / 2 < (V : Int)) (v22 : V ≤ 22) :
    Calls Try.prog 83 #[.int .i64 l, .pointer (some ⟨PV, 0, none⟩)] w fun e w' => e = .returned (.int .i64 (rmL c l)) ∧ w = w' := by
  obtain ⟨p, hp⟩ : ∃ p : Nat, l / 2 = p := ⟨(l / 2).toNat, by omega⟩
  have hpV : p < V := by omega
  have z1 := ints_cell h2 (plL_get hpV)
  have hpl := plW_le c p
  obtain ⟨x, hx⟩ : ∃ x, x = plW c p := ⟨_, rfl⟩
  rw [← hx] at z1 hpl
  have HX : Hid (rmL c l = 2 * (x : Int) + l % 2) := (by unfold rmL; rw [hp, hx]; rfl : rmL c l = 2 * (x : Int) + l % 2)
  rw [HX.out]
  have hand := i64_and1 l
  clear h2 hx
  go_enter Try.func83, Try.ntmps83
  go_wp2
  go_ret
  exact ⟨rfl, rfl⟩

end Go.Proofs.Ytbcolcchchgldaa
