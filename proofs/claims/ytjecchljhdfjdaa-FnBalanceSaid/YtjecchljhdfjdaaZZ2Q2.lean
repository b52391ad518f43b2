import Derived.Test.YtjecchljhdfjdaaZZ2Q1
import Derived.Test.YtjecchljhdfjdaaZZ2L4
import Derived.Deep.DeepCutAuto
import Derived.Outline
namespace Go.Proofs.Ytjecchljhdfjdaa
set_option linter.unusedVariables false
set_option linter.unusedSimpArgs false
open Go.RowKit

/-! Part of the proof of one law. -/

instance gtInh : Inhabited Gt := ⟨⟨0, 0⟩⟩

def oneP (c : Cir) (l : Int) : Prop := l % 2 = 0 ∧ c.first ≤ l / 2 ∧ cntL c.usesI (l / 2) = 1

instance (c : Cir) (l : Int) : Decidable (oneP c l) := inferInstanceAs (Decidable (_ ∧ _))

def lvI (c : Cir) : Nat → Nat → List Int
  | 0, _ => []
  | f + 1, i => (if oneP c (c.gates.getD i default).a then lvI c f ((c.gates.getD i default).a / 2 - c.first).toNat else [(c.gates.getD i default).a]) ++
      (if oneP c (c.gates.getD i default).b then lvI c f ((c.gates.getD i default).b / 2 - c.first).toNat else [(c.gates.getD i default).b])

theorem lvI_len (c : Cir) : ∀ f i, (lvI c f i).length ≤ 2 ^ f
  | 0, _ => by simp [lvI]
  | f + 1, i => by
    have h1 := lvI_len c f ((c.gates.getD i default).a / 2 - c.first).toNat
    have h2 := lvI_len c f ((c.gates.getD i default).b / 2 - c.first).toNat
    have hp : 0 < 2 ^ f := Nat.pow_pos (by omega)
    have hs : 2 ^ (f + 1) = 2 ^ f + 2 ^ f := by rw [Nat.pow_succ]; omega
    unfold lvI
    rw [List.length_append, hs]
    split <;> split <;> (try simp only [List.length_singleton]) <;> omega

theorem gt_getD {gs : List Gt} {k : Nat} {g : Gt} (h : gs[k]? = some g) : gs.getD k default = g := by simp [List.getD, h]

theorem oneP_lt {c : Cir} {l : Int} {i : Nat} (h : oneP c l) (hl : l / 2 < c.first + i) : (l / 2 - c.first).toNat < i := by
  obtain ⟨_, h2, _⟩ := h; omega

theorem lvI_fuel {c : Cir} (hv : c.valid) : ∀ (i f : Nat), i < c.gates.length → i < f → lvI c f i = lvI c (i + 1) i := by
  intro i
  induction i using Nat.strongRecOn with
  | ind i ih =>
    intro f hi hf
    obtain ⟨f, rfl⟩ : ∃ f', f = f' + 1 := ⟨f - 1, by omega⟩
    obtain ⟨g, hg⟩ := get_of_lt hi
    obtain ⟨⟨_, a2⟩, _, b2⟩ := valid_gate hv hg
    have h1 : ∀ l, oneP c l → l / 2 < c.first + i → lvI c f (l / 2 - c.first).toNat = lvI c i (l / 2 - c.first).toNat := fun l ho hl => by
      have hj := oneP_lt ho hl
      rw [ih _ hj f (by omega) (by omega), ih _ hj i (by omega) (by omega)]
    show (_ ++ _) = (_ ++ _)
    rw [gt_getD hg]
    congr 1
    · by_cases h : oneP c g.a
      · rw [if_pos h, if_pos h, h1 _ h a2]
      · rw [if_neg h, if_neg h]
    · by_cases h : oneP c g.b
      · rw [if_pos h, if_pos h, h1 _ h b2]
      · rw [if_neg h, if_neg h]

def Lv (c : Cir) (i : Nat) : List Int := lvI c (i + 1) i

def lvP (c : Cir) (l : Int) : List Int := if oneP c l then Lv c (l / 2 - c.first).toNat else [l]

theorem Lv_eq {c : Cir} (hv : c.valid) {i : Nat} {g : Gt} (hg : c.gates[i]? = some g) : Lv c i = lvP c g.a ++ lvP c g.b := by
  have hi := (List.getElem?_eq_some_iff.1 hg).1
  obtain ⟨⟨_, a2⟩, _, b2⟩ := valid_gate hv hg
  have h1 : ∀ l, oneP c l → l / 2 < c.first + i → lvI c i (l / 2 - c.first).toNat = Lv c (l / 2 - c.first).toNat := fun l ho hl => by
    have hj := oneP_lt ho hl
    exact lvI_fuel hv _ _ (by omega) hj
  unfold Lv lvI lvP
  rw [gt_getD hg]
  congr 1
  · by_cases h : oneP c g.a
    · rw [if_pos h, if_pos h, h1 _ h a2]
    · rw [if_neg h, if_neg h]
  · by_cases h : oneP c g.b
    · rw [if_pos h, if_pos h, h1 _ h b2]
    · rw [if_neg h, if_neg h]

theorem Lv_len (c : Cir) (i : Nat) : (Lv c i).length ≤ 2 ^ (i + 1) := lvI_len c _ _

theorem lvP_len {c : Cir} {l : Int} {i : Nat} (hl : l / 2 < c.first + i) : (lvP c l).length ≤ 2 ^ i := by
  unfold lvP
  by_cases h : oneP c l
  · rw [if_pos h]
    exact Nat.le_trans (Lv_len c _) (Nat.pow_le_pow_right (by omega) (oneP_lt h hl))
  · rw [if_neg h]; exact Nat.pow_pos (by omega)

theorem CirAt.below {w w' : World} {b : Nat} {inp : Int} {vn vg vo : Value} (h : CirAt w b inp vn vg vo) (hb : Below w.heap.size w w') : CirAt w' b inp vn vg vo :=
  have hlt : b < w.heap.size := World.block_lt_of_cell? w _ h.h0
  ⟨(hb.cell hlt).trans h.h0, (hb.cell hlt).trans h.h1, (hb.cell hlt).trans h.h2, (hb.cell hlt).trans h.h3⟩

theorem Drew.cell {w w' : World} (h : Drew w w') (a : Addr) : w'.cell? a = w.cell? a := by obtain ⟨n, rfl⟩ := h; rfl

theorem Drew.frozen {w w' : World} (h : Drew w w') (a : Addr) : w'.frozen? a = w.frozen? a := by obtain ⟨n, rfl⟩ := h; rfl

/-- What leaves appends. -/
def LvPost (base : Nat) (v0 : Value) (ys : List Int) (w : World) (e : Ending) (w' : World) : Prop :=
  ∃ s c', e = .returned (.slice s ys.length c') ∧ w'.ownsRow base 3 1 (.slice s ys.length c') ys.length (ints ys) ∧ Chg (fun k => v0.ownBlock = some k) w w' ∧
    ((Value.slice s ys.length c').ownBlock = v0.ownBlock ∨ ∀ k, (Value.slice s ys.length c').ownBlock = some k → w.heap.size ≤ k)

/-- While the operands of one gate are gone through. -/
structure LvS (W0 : World) (v0 : Value) (W1 : World) (v : Value) (ys : List Int) (wr : World) : Prop where
  own : wr.ownsRow W0.heap.size 3 1 v ys.length (ints ys)
  chg : Chg (fun k => v0.ownBlock = some k) W1 wr
  at_ : v.ownBlock = v0.ownBlock ∨ ∀ k, v.ownBlock = some k → W1.heap.size ≤ k

theorem LvS.push {W0 W1 w1 w2 : World} {v0 v v' : Value} {ys ys' : List Int} (h : LvS W0 v0 W1 v ys w1) (ho : w2.ownsRow W0.heap.size 3 1 v' ys'.length (ints ys')) (hc : Chg (fun k => v.ownBlock = some k) w1 w2)
    (ha : v'.ownBlock = v.ownBlock ∨ ∀ k, v'.ownBlock = some k → w1.heap.size ≤ k) : LvS W0 v0 W1 v' ys' w2 := by
  have hs := h.chg.size
  refine ⟨ho, ⟨hc.os.trans h.chg.os, hc.tape.trans h.chg.tape, hc.output.trans h.chg.output, Nat.le_trans h.chg.size hc.size, fun k hk hn => ?_⟩, ?_⟩
  · rw [hc.block k (by omega) ?_]
    · exact h.chg.block k hk hn
    · intro e
      rcases h.at_ with h1 | h1
      · exact hn (h1 ▸ e)
      · have := h1 k e; omega
  · rcases ha with h1 | h1
    · rw [h1]; exact h.at_
    · exact .inr fun k e => by have := h1 k e; omega

theorem LvS.n {W0 W1 w1 : World} {v0 v : Value} {ys : List Int} (h : LvS W0 v0 W1 v ys w1) (n : Nat) : LvS W0 v0 W1 v ys (w1.drewN n) :=
  h.push (own_below h.own (below_n (Below.refl _ _) n)) (Chg.of_below (below_n (Below.refl _ _) n)) (.inl rfl)

theorem ret_sl {s : Option Addr} {n m c : Nat} (h : n = m) : Ending.returned (.slice s n c) = .returned (.slice s m c) := by rw [h]

theorem LvS.push1 {W0 W1 w1 w3 : World} {v0 : Value} {so : Option Addr} {co : Nat} {ys : List Int} {l : Int} {o : Obj} {s3 : Option Addr} {c3 : Nat} (h : LvS W0 v0 W1 (.slice so ys.length co) ys w1)
    (h3 : w3.ownsRow W0.heap.size 3 1 (.slice s3 (ys.length + 1) c3) (ys.length + 1) (ints ys ++ [.int .i64 l])) (hg : (w1.alloc o).grownBy w3 (Value.slice so ys.length co).ownBlock)
    (ha : (Value.slice s3 (ys.length + 1) c3).ownBlock = (Value.slice so ys.length co).ownBlock ∨ (Value.slice s3 (ys.length + 1) c3).ownBlock = some (w1.alloc o).heap.size) :
    LvS W0 v0 W1 (.slice s3 (ys.length + 1) c3) (ys ++ [l]) w3 := by
  refine h.push ?_ ((Chg.of_below ((Below.refl _ _).alloc (Nat.le_refl _) o)).trans (Chg.of_grown hg)) ?_
  · rw [show ints (ys ++ [l]) = ints ys ++ [.int .i64 l] by simp [ints], show (ys ++ [l]).length = ys.length + 1 by simp]; exact h3
  · rcases ha with h1 | h1
    · exact .inl h1
    · exact .inr fun k e => by rw [h1] at e; simp at e; omega

theorem Sl.intAt {w wr : World} {b off : Nat} {xs : List Int} (h : Sl w (some ⟨b, off, none⟩) (ints xs)) (hbl : Below w.heap.size w wr) {k : Nat} {x : Int} (hx : xs[k]? = some x) : b < w.heap.size ∧ wr.cell? ⟨b, off + k, none⟩ = some (.int .i64 x) := by
  obtain ⟨b', off', e, h1, h2⟩ := h.int hbl hx
  simp only [Option.some.injEq, Addr.mk.injEq, and_true] at e
  obtain ⟨rfl, rfl⟩ := e
  exact ⟨h1, h2⟩

set_option maxHeartbeats 4000000 in
theorem leaves_any (W0 : World) (b : Nat) (sn sg sc : Option Addr) (cn cg cc : Nat) (vo : Value) (c : Cir) (V : Nat) (hC : CirAt W0 b c.inp (.slice sn c.next.length cn) (.slice sg c.gates.length cg) vo)
    (hg : Sl W0 sg (gcells c.gates)) (hc : Sl W0 sc (ints (cnts c.usesI V))) (hv : c.valid) (hV : c.vars = V) :
    ∀ (i : Nat), i < c.gates.length → ∀ (w : World) (xs : List Int) (so : Option Addr) (co : Nat), Below W0.heap.size W0 w → w.ownsRow W0.heap.size 3 1 (.slice so xs.length co) xs.length (ints xs) → xs.length + 2 ^ (i + 1) ≤ 1000000 →
      Calls Try.prog 32 #[.pointer (some ⟨b, 0, none⟩), .slice sc V cc, .int .i64 (c.first + i), .slice so xs.length co] w (LvPost W0.heap.size (.slice so xs.length co) (xs ++ Lv c i) w) := by
  intro i
  induction i using Nat.strongRecOn with
  | ind i ih =>
    intro hi w xs so co hW ho hlen
    obtain ⟨g, hgi⟩ := get_of_lt hi
    obtain ⟨f1, f2, f3, f4⟩ := valid_first hv
    obtain ⟨q1, q2, q3, q4, q5⟩ := id hv.lim
    obtain ⟨⟨a1, a2⟩, b1, b2⟩ := valid_gate hv hgi
    have la := lvP_len a2
    have lb := lvP_len b2
    have hpow : 2 ^ (i + 1) = 2 ^ i + 2 ^ i := by rw [Nat.pow_succ]; omega
    have hL : Lv c i = lvP c g.a ++ lvP c g.b := Lv_eq hv hgi
    rw [hL]
    obtain ⟨gb, goff, rfl, hgb, z1, z2⟩ := hg.gate hW hgi
    have eC : c.first = 1 + c.inp + c.next.length := rfl
    obtain ⟨F, hF⟩ : ∃ F : Nat, c.first = F := ⟨c.first.toNat, by omega⟩
    have cw := (CirAt.below hC hW)
    have HC : Hid (∀ w', Below w.heap.size w w' → CirAt w' b c.inp (.slice sn c.next.length cn) (.slice (some ⟨gb, goff, none⟩) c.gates.length cg) vo) := fun w' hb => CirAt.below cw hb
    have c2 := cw.h2
    have hbs : b < w.heap.size := World.block_lt_of_cell? w _ cw.h0
    have hgs : gb < w.heap.size := World.block_lt_of_cell? w _ z1
    have bd : (F : Int) ≤ 8 ∧ (1 : Int) ≤ F ∧ (V : Int) = F + c.gates.length := by omega
    have H := Lib.hid (And.intro hC (And.intro hg (And.intro hc (And.intro hv (And.intro hV (And.intro hW (And.intro ho (And.intro hL (And.intro hgi (And.intro hF (And.intro eC (And.intro ih (And.intro hlen (And.intro hpow (And.intro la lb)))))))))))))))
    have HQ := Lib.hid (And.intro f1 (And.intro f2 (And.intro f3 (And.intro a2 (And.intro b2 hF)))))
    obtain ⟨bd1, bd2, bd3⟩ := bd
    have HBD := Lib.hid bd3
    rw [hF]
    clear hC hg hc hv hV hW ho hL hgi hF eC ih hlen hpow la lb cw f1 f2 f3 f4 a2 b2 bd3
    have eF : 1 + c.inp + (c.next.length : Int) = (F : Int) := by have h1 := H.out.2.2.2.2.2.2.2.2.2.1; have h2 := H.out.2.2.2.2.2.2.2.2.2.2.1; omega
    have EF := Lib.hid eF
    clear eF
    have hwr : IntKind.i64.wrap ((F : Int) + (i : Int) - (F : Int)) = (i : Int) := by rw [IntWalk.i64_in _ ⟨by omega, by omega⟩]; omega
    have i0 : (0 : Int) ≤ (i : Int) := by omega
    have i1 : (i : Int) < (c.gates.length : Int) := by omega
    have nn1 := World.new_ne w _ c2
    have nn2 := World.new_ne w _ z1
    have nn3 := World.new_ne w _ z2
    go_enter Try.func32, Try.ntmps32
    go_wp2_with fail
    go_cut [9] from 12 to 21 (fun s9 wx => ∃ g' : Nat, s9 = .pointer (some ⟨g', 0, none⟩) ∧ wx.cell? ⟨g', 0, none⟩ = some (.int .i64 g.a) ∧ wx.cell? ⟨g', 1, none⟩ = some (.int .i64 g.b) ∧ Below w.heap.size w wx)
    case first =>
      refine wp_region_T (fun w' => w'.cell? ⟨b, 2, none⟩ = some (.slice (some ⟨gb, goff, none⟩) c.gates.length cg) ∧ w'.cell? ⟨gb, goff + i * 2, none⟩ = some (.int .i64 g.a) ∧ w'.cell? ⟨gb, goff + i * 2 + 1, none⟩ = some (.int .i64 g.b)) (.q 0 (.q 1 (.q 2 (.q 3 (.q 4 (.q 5 (.two 6 (.q 7 (.q 8 (.q 9 (.e 10 (.e 11 .nil))))) 10 (.e 6 (.q 7 (.q 8 (.q 9 (.e 11 .nil)))))))))))) (by kernel_rfl) (by kernel_rfl) (by kernel_rfl) ⟨c2, z1, z2⟩ ?_
      repeat (first | (refine ordt_s (o := ?_) ?_ ?_ ?_; rotate_left 1; (focus ((simp only [zD, zE, zF]) <;> rfl)); (focus rfl); simp only [Act.put, zA, zB, zC]) | (refine ordt_q (o := ?_) (v := ?_) ?_ ?_ ?_ ?_; rotate_left 2; (focus ((simp only [zD, zE, zF]) <;> rfl)); (focus rfl); (focus (intro w' hS; (try dsimp only at hS); go_split_ands; go_simp; (try (with_reducible rfl)))); simp only [Act.put, zA, zB, zC]))
      refine ordt_two ?_ ?_
      · (refine op_e (o := ?_) ?_ ?_ (fun K hK => ?_); rotate_left 1; (focus ((simp only [zD, zE, zF]) <;> rfl)); (focus rfl); go_simp)
        refine (firstGate_any _ _ _ _ _ _ _ _ (HC.out _ (Below.refl _ _).drew) (by omega) (by omega)).mono ?_
        rintro e w1 ⟨rfl, hd⟩
        rw [EF.out]
        have hS : w1.cell? ⟨b, 2, none⟩ = some (.slice (some ⟨gb, goff, none⟩) c.gates.length cg) ∧ w1.cell? ⟨gb, goff + i * 2, none⟩ = some (.int .i64 g.a) ∧ w1.cell? ⟨gb, goff + i * 2 + 1, none⟩ = some (.int .i64 g.b) := ⟨(hd.cell _).trans c2, (hd.cell _).trans z1, (hd.cell _).trans z2⟩
        have hB : Below w.heap.size w w1 := (Below.refl _ _).drew.trans (hd.below _)
        have hz : w1.heap.size = w.heap.size := by rw [hd.heap]; rfl
        have HD := Lib.hid (And.intro hB (And.intro hz hS))
        clear hd hB hz
        refine hK.out _ _ hS ?_
        clear hK K hS
        (try simp only [Act.put, zA, zB, zC])
        repeat (first | (refine ordt_s (o := ?_) ?_ ?_ ?_; rotate_left 1; (focus ((simp only [zD, zE, zF]) <;> rfl)); (focus rfl); simp only [Act.put, zA, zB, zC]) | (refine ordt_q (o := ?_) (v := ?_) ?_ ?_ ?_ ?_; rotate_left 2; (focus ((simp only [zD, zE, zF]) <;> rfl)); (focus rfl); (focus (intro w' hS; (try dsimp only at hS); go_split_ands; go_simp; (try (with_reducible rfl)))); simp only [Act.put, zA, zB, zC]))
        refine ordt_e ?_
        (refine op_e (o := ?_) ?_ ?_ (fun K hK => ?_); rotate_left 1; (focus ((simp only [zD, zE, zF]) <;> rfl)); (focus rfl); go_simp)
        have hb1 := (Below.refl w1.heap.size w1).alloc (Nat.le_refl _) (.cells #[.int .i64 0, .int .i64 0] 24)
        have hn := blk_new w1 (.cells #[.int .i64 0, .int .i64 0] 24)
        have hsz := HD.out.2.1
        have hB2 := HD.out.1.trans (hb1.mono HD.out.1.size)
        revert hb1 hn hB2
        generalize w1.alloc (.cells #[.int .i64 0, .int .i64 0] 24) = W
        intro hb1 hn hB2
        rw [hsz] at hn ⊢
        have hS : W.cell? ⟨b, 2, none⟩ = some (.slice (some ⟨gb, goff, none⟩) c.gates.length cg) ∧ W.cell? ⟨gb, goff + i * 2, none⟩ = some (.int .i64 g.a) ∧ W.cell? ⟨gb, goff + i * 2 + 1, none⟩ = some (.int .i64 g.b) :=
          ⟨(hB2.cell (p := ⟨b, 2, none⟩) hbs).trans c2, (hB2.cell (p := ⟨gb, goff + i * 2, none⟩) hgs).trans z1, (hB2.cell (p := ⟨gb, goff + i * 2 + 1, none⟩) hgs).trans z2⟩
        refine hK.out _ _ hS ?_
        clear hK K hS hb1 hsz
        have k0 : W.cell? ⟨w.heap.size, 0, none⟩ = some (.int .i64 0) := blk_cell hn
        have k1 : W.cell? ⟨w.heap.size, 1, none⟩ = some (.int .i64 0) := blk_cell hn
        have k2 : W.frozen? ⟨w.heap.size, 0, none⟩ = false := blk_free hn
        have k3 : W.frozen? ⟨w.heap.size, 1, none⟩ = false := blk_free hn
        have HN := Lib.hid (And.intro hn hB2)
        clear hn hB2
        (try simp only [Act.put, zA, zB, zC])
        refine ordt_e ?_
        (refine op_e (o := ?_) ?_ ?_ (fun K hK => ?_); rotate_left 1; (focus ((simp only [zD, zE, zF]) <;> rfl)); (focus rfl); go_simp)
        have hn := blk_set (o := 1) (v := .int .i64 g.b) (blk_set (o := 0) (v := .int .i64 g.a) HN.out.1)
        have hB2 := (HN.out.2.setCell (p := ⟨w.heap.size, 0, none⟩) (Nat.le_refl _) (.int .i64 g.a)).setCell (p := ⟨w.heap.size, 1, none⟩) (Nat.le_refl _) (.int .i64 g.b)
        clear k0 k1 k2 k3
        revert hn hB2
        generalize (W.setCell ⟨w.heap.size, 0, none⟩ (.int .i64 g.a)).setCell ⟨w.heap.size, 1, none⟩ (.int .i64 g.b) = W2
        intro hn hB2
        have hS : W2.cell? ⟨b, 2, none⟩ = some (.slice (some ⟨gb, goff, none⟩) c.gates.length cg) ∧ W2.cell? ⟨gb, goff + i * 2, none⟩ = some (.int .i64 g.a) ∧ W2.cell? ⟨gb, goff + i * 2 + 1, none⟩ = some (.int .i64 g.b) :=
          ⟨(hB2.cell (p := ⟨b, 2, none⟩) hbs).trans c2, (hB2.cell (p := ⟨gb, goff + i * 2, none⟩) hgs).trans z1, (hB2.cell (p := ⟨gb, goff + i * 2 + 1, none⟩) hgs).trans z2⟩
        refine hK.out _ _ hS ?_
        clear hK K hS
        have HN2 := Lib.hid (And.intro hn hB2)
        clear hn hB2
        (try simp only [Act.put, zA, zB, zC])
        refine ordt_nil ?_
        go_wp2_with fail
        go_meet
        exact ⟨w.heap.size, rfl, blk_cell HN2.out.1, blk_cell HN2.out.1, HN2.out.2⟩
      · (refine op_e (o := ?_) ?_ ?_ (fun K hK => ?_); rotate_left 1; (focus ((simp only [zD, zE, zF]) <;> rfl)); (focus rfl); go_simp)
        have hn : (w.alloc (.cells #[.int .i64 0, .int .i64 0] 24)).drew.heap[w.heap.size]? = some (.cells #[.int .i64 0, .int .i64 0] 24 (0, 0)) := blk_new w (.cells #[.int .i64 0, .int .i64 0] 24)
        have hB2 : Below w.heap.size w (w.alloc (.cells #[.int .i64 0, .int .i64 0] 24)).drew := ((Below.refl _ _).alloc (Nat.le_refl _) _).drew
        revert hn hB2
        generalize (w.alloc (.cells #[.int .i64 0, .int .i64 0] 24)).drew = W
        intro hn hB2
        have hn' : W.heap[w.heap.size]? = some (.cells #[.int .i64 0, .int .i64 0] 24 (0, 0)) := hn
        clear hn
        have hS : W.cell? ⟨b, 2, none⟩ = some (.slice (some ⟨gb, goff, none⟩) c.gates.length cg) ∧ W.cell? ⟨gb, goff + i * 2, none⟩ = some (.int .i64 g.a) ∧ W.cell? ⟨gb, goff + i * 2 + 1, none⟩ = some (.int .i64 g.b) :=
          ⟨(hB2.cell (p := ⟨b, 2, none⟩) hbs).trans c2, (hB2.cell (p := ⟨gb, goff + i * 2, none⟩) hgs).trans z1, (hB2.cell (p := ⟨gb, goff + i * 2 + 1, none⟩) hgs).trans z2⟩
        refine hK.out _ _ hS ?_
        clear hK K hS
        have HN0 := Lib.hid (And.intro hn' hB2)
        clear hn' hB2
        (try simp only [Act.put, zA, zB, zC])
        refine ordt_e ?_
        (refine op_e (o := ?_) ?_ ?_ (fun K hK => ?_); rotate_left 1; (focus ((simp only [zD, zE, zF]) <;> rfl)); (focus rfl); go_simp)
        refine (firstGate_any _ _ _ _ _ _ _ _ (HC.out _ HN0.out.2) (by omega) (by omega)).mono ?_
        rintro e w1 ⟨rfl, hd⟩
        rw [EF.out]
        have hn : w1.heap[w.heap.size]? = some (.cells #[.int .i64 0, .int .i64 0] 24 (0, 0)) := by rw [hd.heap]; exact HN0.out.1
        have hB2 : Below w.heap.size w w1 := HN0.out.2.trans (hd.below _)
        have hS : w1.cell? ⟨b, 2, none⟩ = some (.slice (some ⟨gb, goff, none⟩) c.gates.length cg) ∧ w1.cell? ⟨gb, goff + i * 2, none⟩ = some (.int .i64 g.a) ∧ w1.cell? ⟨gb, goff + i * 2 + 1, none⟩ = some (.int .i64 g.b) :=
          ⟨(hB2.cell (p := ⟨b, 2, none⟩) hbs).trans c2, (hB2.cell (p := ⟨gb, goff + i * 2, none⟩) hgs).trans z1, (hB2.cell (p := ⟨gb, goff + i * 2 + 1, none⟩) hgs).trans z2⟩
        refine hK.out _ _ hS ?_
        clear hK K hS hd
        have k0 : w1.cell? ⟨w.heap.size, 0, none⟩ = some (.int .i64 0) := blk_cell hn
        have k1 : w1.cell? ⟨w.heap.size, 1, none⟩ = some (.int .i64 0) := blk_cell hn
        have k2 : w1.frozen? ⟨w.heap.size, 0, none⟩ = false := blk_free hn
        have k3 : w1.frozen? ⟨w.heap.size, 1, none⟩ = false := blk_free hn
        have HN := Lib.hid (And.intro hn hB2)
        clear hn hB2
        (try simp only [Act.put, zA, zB, zC])
        repeat (first | (refine ordt_s (o := ?_) ?_ ?_ ?_; rotate_left 1; (focus ((simp only [zD, zE, zF]) <;> rfl)); (focus rfl); simp only [Act.put, zA, zB, zC]) | (refine ordt_q (o := ?_) (v := ?_) ?_ ?_ ?_ ?_; rotate_left 2; (focus ((simp only [zD, zE, zF]) <;> rfl)); (focus rfl); (focus (intro w' hS; (try dsimp only at hS); go_split_ands; go_simp; (try (with_reducible rfl)))); simp only [Act.put, zA, zB, zC]))
        refine ordt_e ?_
        (refine op_e (o := ?_) ?_ ?_ (fun K hK => ?_); rotate_left 1; (focus ((simp only [zD, zE, zF]) <;> rfl)); (focus rfl); go_simp)
        have hn := blk_set (o := 1) (v := .int .i64 g.b) (blk_set (o := 0) (v := .int .i64 g.a) HN.out.1)
        have hB2 := (HN.out.2.setCell (p := ⟨w.heap.size, 0, none⟩) (Nat.le_refl _) (.int .i64 g.a)).setCell (p := ⟨w.heap.size, 1, none⟩) (Nat.le_refl _) (.int .i64 g.b)
        clear k0 k1 k2 k3
        revert hn hB2
        generalize (w1.setCell ⟨w.heap.size, 0, none⟩ (.int .i64 g.a)).setCell ⟨w.heap.size, 1, none⟩ (.int .i64 g.b) = W2
        intro hn hB2
        have hS : W2.cell? ⟨b, 2, none⟩ = some (.slice (some ⟨gb, goff, none⟩) c.gates.length cg) ∧ W2.cell? ⟨gb, goff + i * 2, none⟩ = some (.int .i64 g.a) ∧ W2.cell? ⟨gb, goff + i * 2 + 1, none⟩ = some (.int .i64 g.b) :=
          ⟨(hB2.cell (p := ⟨b, 2, none⟩) hbs).trans c2, (hB2.cell (p := ⟨gb, goff + i * 2, none⟩) hgs).trans z1, (hB2.cell (p := ⟨gb, goff + i * 2 + 1, none⟩) hgs).trans z2⟩
        refine hK.out _ _ hS ?_
        clear hK K hS
        have HN2 := Lib.hid (And.intro hn hB2)
        clear hn hB2
        (try simp only [Act.put, zA, zB, zC])
        refine ordt_nil ?_
        go_wp2_with fail
        go_meet
        exact ⟨w.heap.size, rfl, blk_cell HN2.out.1, blk_cell HN2.out.1, HN2.out.2⟩
    case rest =>
      obtain ⟨g', rfl, k0, k1, hB⟩ := hcut
      have HB := Lib.hid hB
      clear hB z1 z2 c2 nn1 nn2 nn3 hwr
      go_wp2_with fail
      obtain ⟨cb, coff, hsc, hcb, -⟩ := H.out.2.2.1.at (k := 0) (by rw [ints_length, cnts_length]; have := HBD.out; omega)
      subst hsc
      have hB1 : Below w.heap.size w (wc.alloc (.cells #[.int .i64 g.a, .int .i64 g.b] 3)) := HB.out.alloc HB.out.size _
      have hn := blk_new wc (.cells #[.int .i64 g.a, .int .i64 g.b] 3)
      have hws := HB.out.size
      clear k0 k1
      revert hB1 hn
      generalize wc.alloc (.cells #[.int .i64 g.a, .int .i64 g.b] 3) = W1
      intro hB1 hn
      have hLS : LvS W0 (.slice so xs.length co) W1 (.slice so xs.length co) xs W1 := ⟨own_below H.out.2.2.2.2.2.2.1 hB1, Chg.refl _ _, .inl rfl⟩
      have hW1 : Below W0.heap.size W0 W1 := H.out.2.2.2.2.2.1.trans (hB1.mono H.out.2.2.2.2.2.1.size)
      have hv0 : ∀ k, (Value.slice so xs.length co).ownBlock = some k → W0.heap.size ≤ k ∧ k < w.heap.size := fun k e => own_blk H.out.2.2.2.2.2.2.1 e
      have HW := Lib.hid (And.intro hB1 (And.intro hn (And.intro hLS (And.intro hW1 hv0))))
      clear hB1 hn hLS hW1 hv0
      go_loopw [28, 3] (fun j v3 wr => ∃ (ys : List Int) (so' : Option Addr) (co' : Nat), v3 = .slice so' ys.length co' ∧ ((j = .int .i64 0 ∧ ys = xs) ∨ (j = .int .i64 1 ∧ ys = xs ++ lvP c g.a) ∨ (j = .int .i64 2 ∧ ys = xs ++ (lvP c g.a ++ lvP c g.b))) ∧ LvS W0 (.slice so xs.length co) W1 v3 ys wr) (fun j _ _ => 2 - (intOf j).toNat)
      case atStart => exact ⟨xs, so, co, rfl, .inl ⟨rfl, rfl⟩, HW.out.2.2.1⟩
      case round =>
        obtain ⟨ys, so', co', rfl, hj, hls⟩ := hrel
        have hch := hls.chg
        have hnb := hch.blk HW.out.2.1 (fun e => by have := (HW.out.2.2.2.2 _ e).2; omega)
        have e0 : wr.cell? ⟨wc.heap.size, 0, none⟩ = some (.int .i64 g.a) := blk_cell hnb
        have e1 : wr.cell? ⟨wc.heap.size, 1, none⟩ = some (.int .i64 g.b) := blk_cell hnb
        have hWr : Below W0.heap.size W0 wr := HW.out.2.2.2.1.trans (hch.below HW.out.2.2.2.1.size (fun k hk e => by have := (HW.out.2.2.2.2 k e).1; omega))
        clear hch hnb
        rcases hj with ⟨rfl, hys⟩ | ⟨rfl, hys⟩ | ⟨rfl, hys⟩
        all_goals have HE := Lib.hid hys
        · have hyl : ys.length + 2 ^ i ≤ xs.length + 2 ^ (i + 1) := by have h1 := H.out.2.2.2.2.2.2.2.2.2.2.2.2.2.1; have hp : 0 < 2 ^ i := Nat.pow_pos (by omega); rw [hys, h1]; omega
          have HR := Lib.hid (And.intro hls (And.intro hWr hyl))
          clear hls hWr hyl hys
          have a2 := HQ.out.2.2.2.1
          have aub : g.a ≤ 1000 := by have := HQ.out.2.2.2.2.2; omega
          obtain ⟨p, hp⟩ : ∃ p : Nat, g.a / 2 = p := ⟨(g.a / 2).toNat, by omega⟩
          have p2 : p < V := by have := HBD.out; have := HQ.out.2.2.2.2.2; omega
          have hcz := (H.out.2.2.1.intAt HR.out.2.1 (cnts_get (L := c.usesI) p2)).2
          have hand := i64_and1 (g.a)
          have hP := Lib.hid (And.intro hp a2)
          have hlx := Lib.hid (H.out.2.2.2.2.2.2.2.2.2.2.2.2)
          clear a2
          have HCr := Lib.hid (CirAt.below H.out.1 HR.out.2.1)
          by_cases ho : oneP c g.a
          · obtain ⟨o1, o2, o3⟩ := id ho
            obtain ⟨m, hm⟩ : ∃ m : Nat, (p : Int) = F + m := ⟨(g.a / 2 - c.first).toNat, by have := HQ.out.2.2.2.2.2; omega⟩
            have hmi : m < i := by have := HQ.out.2.2.2.2.2; have := hP.out.2; omega
            have hml : m = (g.a / 2 - c.first).toNat := by have := HQ.out.2.2.2.2.2; omega
            have hle : lvP c g.a = Lv c m := by unfold lvP; rw [if_pos ho, ← hml]
            have hl3 : ys.length + 2 ^ (m + 1) ≤ 1000000 := by
              have h1 := hlx.out
              have h2 : 2 ^ (m + 1) ≤ 2 ^ i := Nat.pow_le_pow_right (by omega) (by omega)
              have h3 := HR.out.2.2
              omega
            have HIH : Hid (∀ wx, Below W0.heap.size W0 wx → wx.ownsRow W0.heap.size 3 1 (.slice so' ys.length co') ys.length (ints ys) → Calls Try.prog 32 #[.pointer (some ⟨b, 0, none⟩), .slice (some ⟨cb, coff, none⟩) V cc, .int .i64 (p : Int), .slice so' ys.length co'] wx (LvPost W0.heap.size (.slice so' ys.length co') (ys ++ Lv c m) wx)) := fun wx h1 h2 => by
              have := H.out.2.2.2.2.2.2.2.2.2.2.2.1 m hmi (by omega) wx ys so' co' h1 h2 hl3
              rw [HQ.out.2.2.2.2.2, ← hm] at this
              exact this
            rw [hp] at o2 o3
            rw [o3] at hcz
            rw [o1] at hand
            have o2' : (F : Int) ≤ (p : Int) := by omega
            have HO := Lib.hid (And.intro hle o1)
            have hmI : (p : Int) = F + m := hm
            have HM := Lib.hid hmI
            clear ho o1 o2 o3 hmi hml hle hl3 hm hmI
            go_wp2_with (first
              | (go_at_call 33; ((refine (firstGate_any _ _ _ _ _ _ _ _ HCr.out (by omega) (by omega)).mono ?_); rintro e w1 ⟨rfl, n, rfl⟩; rw [EF.out]))
              | (go_at_call 32; ((refine (HIH.out _ (below_n HR.out.2.1 n) (own_below HR.out.1.own (below_n (Below.refl _ _) n))).mono ?_); rintro e w2 ⟨s3, c3, rfl, ho3, hc3, ha3⟩; have HP3 := Lib.hid (And.intro ho3 (And.intro hc3 ha3)); clear ho3 hc3 ha3)))
            go_roundw
            case rel =>
              have hl := congrArg List.length (show ys ++ lvP c g.a = ys ++ Lv c m by rw [HO.out.1])
              refine ⟨ys ++ Lv c m, s3, c3, by rw [List.length_append], .inr (.inl ⟨rfl, by rw [HE.out, HO.out.1]⟩), by have h := (HR.out.1.n n).push HP3.out.1 HP3.out.2.1 HP3.out.2.2; rw [show (Value.slice s3 (ys ++ Lv c m).length c3) = Value.slice s3 (ys.length + (Lv c m).length) c3 by rw [List.length_append]] at h; exact h⟩
            case measure => simp [intOf]
          · have hcs : g.a % 2 = 1 ∨ (g.a % 2 = 0 ∧ (p : Int) < F) ∨ (g.a % 2 = 0 ∧ (F : Int) ≤ p ∧ cntL c.usesI (p : Int) ≠ 1) := by
              have hF := HQ.out.2.2.2.2.2
              unfold oneP at ho
              rw [hp, hF] at ho
              by_cases h1 : g.a % 2 = 0
              · by_cases h2 : (F : Int) ≤ p
                · exact .inr (.inr ⟨h1, h2, fun h3 => ho ⟨h1, h2, h3⟩⟩)
                · exact .inr (.inl ⟨h1, by omega⟩)
              · exact .inl (by omega)
            have hle : lvP c g.a = [g.a] := by unfold lvP; rw [if_neg ho]
            have hlen1 : ys.length ≤ 1000000 := by have := HR.out.2.2; have h1 := hlx.out; have : 0 < 2 ^ i := Nat.pow_pos (by omega); omega
            have HO := Lib.hid hle
            have HCS := Lib.hid hcs
            clear ho hle hcs
            obtain ⟨q, hq⟩ : ∃ q : Nat, cntL c.usesI (p : Int) = q := ⟨_, rfl⟩
            rw [hq] at hcz
            have HQQ := Lib.hid hq
            clear hq
            rcases HCS.out with o1 | ⟨o1, o2⟩ | ⟨o1, o2, o3⟩
            all_goals rw [o1] at hand
            all_goals clear o1
            rotate_left 2
            · have o3' : ((q : Int) == 1) = false := beq_eq_false_iff_ne.2 (by rw [HQQ.out] at o3; omega)
              clear o3
              go_wp2_with (first
                | (go_at_call 33; ((refine (firstGate_any _ _ _ _ _ _ _ _ HCr.out (by omega) (by omega)).mono ?_); rintro e w1 ⟨rfl, n, rfl⟩; rw [EF.out]))
                | (at_builtin; refine wpl_app rfl (.tmp 56) (.tmp 58) rfl elem_int ((HR.out.1.n n).own.alloc _) rfl rfl rfl (Sl.new _ _ _) (by simp [Value.oneCell']) (ys.length + 1) rfl _ rfl (by unfold maxLen; omega) (by omega) (by have := HR.out.2.1.size; simp; omega) ?_; intro s3 c3 w3 h3 _ hg ha; have HA := Lib.hid (LvS.push1 (HR.out.1.n n) h3 hg ha); clear h3 hg ha))
              go_roundw
              case rel => exact ⟨ys ++ [g.a], s3, c3, by simp, .inr (.inl ⟨rfl, by rw [HE.out, HO.out]⟩), by simpa using HA.out⟩
              case measure => simp [intOf]
            · go_wp2_with (at_builtin; refine wpl_app rfl (.tmp 56) (.tmp 58) rfl elem_int (HR.out.1.own.alloc _) rfl rfl rfl (Sl.new _ _ _) (by simp [Value.oneCell']) (ys.length + 1) rfl _ rfl (by unfold maxLen; omega) (by omega) (by have := HR.out.2.1.size; simp; omega) ?_; intro s3 c3 w3 h3 _ hg ha; have HA := Lib.hid (LvS.push1 HR.out.1 h3 hg ha); clear h3 hg ha)
              go_roundw
              case rel => exact ⟨ys ++ [g.a], s3, c3, by simp, .inr (.inl ⟨rfl, by rw [HE.out, HO.out]⟩), by simpa using HA.out⟩
              case measure => simp [intOf]
            · go_wp2_with (first
                | (go_at_call 33; ((refine (firstGate_any _ _ _ _ _ _ _ _ HCr.out (by omega) (by omega)).mono ?_); rintro e w1 ⟨rfl, n, rfl⟩; rw [EF.out]))
                | (at_builtin; refine wpl_app rfl (.tmp 56) (.tmp 58) rfl elem_int ((HR.out.1.n n).own.alloc _) rfl rfl rfl (Sl.new _ _ _) (by simp [Value.oneCell']) (ys.length + 1) rfl _ rfl (by unfold maxLen; omega) (by omega) (by have := HR.out.2.1.size; simp; omega) ?_; intro s3 c3 w3 h3 _ hg ha; have HA := Lib.hid (LvS.push1 (HR.out.1.n n) h3 hg ha); clear h3 hg ha))
              go_roundw
              case rel => exact ⟨ys ++ [g.a], s3, c3, by simp, .inr (.inl ⟨rfl, by rw [HE.out, HO.out]⟩), by simpa using HA.out⟩
              case measure => simp [intOf]
        · have hyl : ys.length + 2 ^ i ≤ xs.length + 2 ^ (i + 1) := by have h1 := H.out.2.2.2.2.2.2.2.2.2.2.2.2.2.1; have h2 := H.out.2.2.2.2.2.2.2.2.2.2.2.2.2.2.1; rw [hys, List.length_append, h1]; omega
          have HR := Lib.hid (And.intro hls (And.intro hWr hyl))
          clear hls hWr hyl hys
          have a2 := HQ.out.2.2.2.2.1
          have aub : g.b ≤ 1000 := by have := HQ.out.2.2.2.2.2; omega
          obtain ⟨p, hp⟩ : ∃ p : Nat, g.b / 2 = p := ⟨(g.b / 2).toNat, by omega⟩
          have p2 : p < V := by have := HBD.out; have := HQ.out.2.2.2.2.2; omega
          have hcz := (H.out.2.2.1.intAt HR.out.2.1 (cnts_get (L := c.usesI) p2)).2
          have hand := i64_and1 (g.b)
          have hP := Lib.hid (And.intro hp a2)
          have hlx := Lib.hid (H.out.2.2.2.2.2.2.2.2.2.2.2.2)
          clear a2
          have HCr := Lib.hid (CirAt.below H.out.1 HR.out.2.1)
          by_cases ho : oneP c g.b
          · obtain ⟨o1, o2, o3⟩ := id ho
            obtain ⟨m, hm⟩ : ∃ m : Nat, (p : Int) = F + m := ⟨(g.b / 2 - c.first).toNat, by have := HQ.out.2.2.2.2.2; omega⟩
            have hmi : m < i := by have := HQ.out.2.2.2.2.2; have := hP.out.2; omega
            have hml : m = (g.b / 2 - c.first).toNat := by have := HQ.out.2.2.2.2.2; omega
            have hle : lvP c g.b = Lv c m := by unfold lvP; rw [if_pos ho, ← hml]
            have hl3 : ys.length + 2 ^ (m + 1) ≤ 1000000 := by
              have h1 := hlx.out
              have h2 : 2 ^ (m + 1) ≤ 2 ^ i := Nat.pow_le_pow_right (by omega) (by omega)
              have h3 := HR.out.2.2
              omega
            have HIH : Hid (∀ wx, Below W0.heap.size W0 wx → wx.ownsRow W0.heap.size 3 1 (.slice so' ys.length co') ys.length (ints ys) → Calls Try.prog 32 #[.pointer (some ⟨b, 0, none⟩), .slice (some ⟨cb, coff, none⟩) V cc, .int .i64 (p : Int), .slice so' ys.length co'] wx (LvPost W0.heap.size (.slice so' ys.length co') (ys ++ Lv c m) wx)) := fun wx h1 h2 => by
              have := H.out.2.2.2.2.2.2.2.2.2.2.2.1 m hmi (by omega) wx ys so' co' h1 h2 hl3
              rw [HQ.out.2.2.2.2.2, ← hm] at this
              exact this
            rw [hp] at o2 o3
            rw [o3] at hcz
            rw [o1] at hand
            have o2' : (F : Int) ≤ (p : Int) := by omega
            have HO := Lib.hid (And.intro hle o1)
            have hmI : (p : Int) = F + m := hm
            have HM := Lib.hid hmI
            clear ho o1 o2 o3 hmi hml hle hl3 hm hmI
            go_wp2_with (first
              | (go_at_call 33; ((refine (firstGate_any _ _ _ _ _ _ _ _ HCr.out (by omega) (by omega)).mono ?_); rintro e w1 ⟨rfl, n, rfl⟩; rw [EF.out]))
              | (go_at_call 32; ((refine (HIH.out _ (below_n HR.out.2.1 n) (own_below HR.out.1.own (below_n (Below.refl _ _) n))).mono ?_); rintro e w2 ⟨s3, c3, rfl, ho3, hc3, ha3⟩; have HP3 := Lib.hid (And.intro ho3 (And.intro hc3 ha3)); clear ho3 hc3 ha3)))
            go_roundw
            case rel =>
              have hl := congrArg List.length (show ys ++ lvP c g.b = ys ++ Lv c m by rw [HO.out.1])
              refine ⟨ys ++ Lv c m, s3, c3, by rw [List.length_append], .inr (.inr ⟨rfl, by rw [HE.out, HO.out.1, List.append_assoc]⟩), by have h := (HR.out.1.n n).push HP3.out.1 HP3.out.2.1 HP3.out.2.2; rw [show (Value.slice s3 (ys ++ Lv c m).length c3) = Value.slice s3 (ys.length + (Lv c m).length) c3 by rw [List.length_append]] at h; exact h⟩
            case measure => simp [intOf]
          · have hcs : g.b % 2 = 1 ∨ (g.b % 2 = 0 ∧ (p : Int) < F) ∨ (g.b % 2 = 0 ∧ (F : Int) ≤ p ∧ cntL c.usesI (p : Int) ≠ 1) := by
              have hF := HQ.out.2.2.2.2.2
              unfold oneP at ho
              rw [hp, hF] at ho
              by_cases h1 : g.b % 2 = 0
              · by_cases h2 : (F : Int) ≤ p
                · exact .inr (.inr ⟨h1, h2, fun h3 => ho ⟨h1, h2, h3⟩⟩)
                · exact .inr (.inl ⟨h1, by omega⟩)
              · exact .inl (by omega)
            have hle : lvP c g.b = [g.b] := by unfold lvP; rw [if_neg ho]
            have hlen1 : ys.length ≤ 1000000 := by have := HR.out.2.2; have h1 := hlx.out; have : 0 < 2 ^ i := Nat.pow_pos (by omega); omega
            have HO := Lib.hid hle
            have HCS := Lib.hid hcs
            clear ho hle hcs
            obtain ⟨q, hq⟩ : ∃ q : Nat, cntL c.usesI (p : Int) = q := ⟨_, rfl⟩
            rw [hq] at hcz
            have HQQ := Lib.hid hq
            clear hq
            rcases HCS.out with o1 | ⟨o1, o2⟩ | ⟨o1, o2, o3⟩
            all_goals rw [o1] at hand
            all_goals clear o1
            rotate_left 2
            · have o3' : ((q : Int) == 1) = false := beq_eq_false_iff_ne.2 (by rw [HQQ.out] at o3; omega)
              clear o3
              go_wp2_with (first
                | (go_at_call 33; ((refine (firstGate_any _ _ _ _ _ _ _ _ HCr.out (by omega) (by omega)).mono ?_); rintro e w1 ⟨rfl, n, rfl⟩; rw [EF.out]))
                | (at_builtin; refine wpl_app rfl (.tmp 56) (.tmp 58) rfl elem_int ((HR.out.1.n n).own.alloc _) rfl rfl rfl (Sl.new _ _ _) (by simp [Value.oneCell']) (ys.length + 1) rfl _ rfl (by unfold maxLen; omega) (by omega) (by have := HR.out.2.1.size; simp; omega) ?_; intro s3 c3 w3 h3 _ hg ha; have HA := Lib.hid (LvS.push1 (HR.out.1.n n) h3 hg ha); clear h3 hg ha))
              go_roundw
              case rel => exact ⟨ys ++ [g.b], s3, c3, by simp, .inr (.inr ⟨rfl, by rw [HE.out, HO.out, List.append_assoc]⟩), by simpa using HA.out⟩
              case measure => simp [intOf]
            · go_wp2_with (at_builtin; refine wpl_app rfl (.tmp 56) (.tmp 58) rfl elem_int (HR.out.1.own.alloc _) rfl rfl rfl (Sl.new _ _ _) (by simp [Value.oneCell']) (ys.length + 1) rfl _ rfl (by unfold maxLen; omega) (by omega) (by have := HR.out.2.1.size; simp; omega) ?_; intro s3 c3 w3 h3 _ hg ha; have HA := Lib.hid (LvS.push1 HR.out.1 h3 hg ha); clear h3 hg ha)
              go_roundw
              case rel => exact ⟨ys ++ [g.b], s3, c3, by simp, .inr (.inr ⟨rfl, by rw [HE.out, HO.out, List.append_assoc]⟩), by simpa using HA.out⟩
              case measure => simp [intOf]
            · go_wp2_with (first
                | (go_at_call 33; ((refine (firstGate_any _ _ _ _ _ _ _ _ HCr.out (by omega) (by omega)).mono ?_); rintro e w1 ⟨rfl, n, rfl⟩; rw [EF.out]))
                | (at_builtin; refine wpl_app rfl (.tmp 56) (.tmp 58) rfl elem_int ((HR.out.1.n n).own.alloc _) rfl rfl rfl (Sl.new _ _ _) (by simp [Value.oneCell']) (ys.length + 1) rfl _ rfl (by unfold maxLen; omega) (by omega) (by have := HR.out.2.1.size; simp; omega) ?_; intro s3 c3 w3 h3 _ hg ha; have HA := Lib.hid (LvS.push1 (HR.out.1.n n) h3 hg ha); clear h3 hg ha))
              go_roundw
              case rel => exact ⟨ys ++ [g.b], s3, c3, by simp, .inr (.inr ⟨rfl, by rw [HE.out, HO.out, List.append_assoc]⟩), by simpa using HA.out⟩
              case measure => simp [intOf]
        · have HR := Lib.hid (And.intro hls hWr)
          clear hls hWr hys e0 e1
          go_wp2
          go_ret
          have hs := HW.out.1.size
          refine ⟨so', co', ret_sl (congrArg List.length HE.out), by rw [← HE.out]; exact HR.out.1.own, (Chg.of_below HW.out.1).trans HR.out.1.chg, ?_⟩
          rw [← HE.out]
          rcases HR.out.1.at_ with h1 | h1
          · exact .inl h1
          · exact .inr fun k e => by have := h1 k e; omega

end Go.Proofs.Ytjecchljhdfjdaa
