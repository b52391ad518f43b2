import Derived.Test.YtddmgphlhfilnaaD3
import Derived.Test.YtddmgphlhfilnaaL1
import Derived.Deep.RegionHeld3
namespace Go.Proofs.Ytddmgphlhfilnaa
set_option linter.unusedVariables false
set_option linter.unusedSimpArgs false
open Go.RowKit

theorem elem_ints : ElemOf Try.prog 56 36 (.slice none 0 0) 1 24 :=
  ⟨by kernel_rfl, info_parts (by kernel_rfl), rfl, by omega⟩

/-- While a formula is drawn: its rows, the clause that is being drawn, the reader. -/
structure CT (B : Nat) (s : Option Addr) (c : Nat) (xs : List Int) (w : World) (b : Nat) (v : Value) (rows : List (List Int)) (u : Value) (r : List Int) (p : Nat) (w' : World) : Prop where
  out : OwnB w' w.heap.size b v rows
  cl : w'.ownsRow b 3 1 u r.length (ints r)
  rd : Rd w' B s c xs p
  kp : Kp B w.heap.size w w'
  hb : w.heap.size ≤ b
  hb2 : b ≤ w'.heap.size
  hB : B < w.heap.size

theorem CT.upd {B : Nat} {s : Option Addr} {c : Nat} {xs : List Int} {w : World} {b : Nat} {v : Value} {rows : List (List Int)} {u : Value} {r : List Int} {p p2 : Nat} {w1 w2 : World} (h : CT B s c xs w b v rows u r p w1)
    (hr : Rd w2 B s c xs p2) (hu : Upd B w1 w2) : CT B s c xs w b v rows u r p2 w2 := by
  have hs := hu.size
  have h1 := h.hb; have h2 := h.hb2; have h3 := h.hB
  have k : Kp B w1.heap.size w1 w2 := Kp.of_upd hu (Nat.le_refl _)
  exact ⟨h.out.kp h.hB h2 k, own_kp h.cl (by omega) (fun k e => (own_blk h.cl e).2) k, hr, h.kp.trans (k.mono (by omega)), h1, by omega, h3⟩
theorem CT.alloc {B : Nat} {s : Option Addr} {c : Nat} {xs : List Int} {w : World} {b : Nat} {v : Value} {rows : List (List Int)} {u : Value} {r : List Int} {p : Nat} {w1 : World} (h : CT B s c xs w b v rows u r p w1) (o : Obj) : CT B s c xs w b v rows u r p (w1.alloc o) :=
  h.upd (h.rd.mono ((Below.refl _ _).alloc (Nat.le_refl _) _)) (Upd.of_below ((Below.refl _ _).alloc (Nat.le_refl _) _))
theorem CT.n {B : Nat} {s : Option Addr} {c : Nat} {xs : List Int} {w : World} {b : Nat} {v : Value} {rows : List (List Int)} {u : Value} {r : List Int} {p : Nat} {w1 : World} (h : CT B s c xs w b v rows u r p w1) (n : Nat) : CT B s c xs w b v rows u r p (w1.drewN n) :=
  h.upd (h.rd.mono (below_n (Below.refl _ _) n)) (Upd.of_below (below_n (Below.refl _ _) n))
/-- The clause is done with. -/
theorem CT.up {B : Nat} {s : Option Addr} {c : Nat} {xs : List Int} {w : World} {b : Nat} {v : Value} {rows : List (List Int)} {u : Value} {r : List Int} {p : Nat} {w1 : World} (h : CT B s c xs w b v rows u r p w1) : CT B s c xs w w1.heap.size v rows (.slice none 0 0) [] p w1 :=
  ⟨h.out.up h.hb2, World.ownsRow_nil _ _ _ _, h.rd, h.kp, Nat.le_trans h.hb h.hb2, Nat.le_refl _, h.hB⟩
/-- A new clause. -/
theorem CT.open {B : Nat} {s : Option Addr} {c : Nat} {xs : List Int} {w : World} {b : Nat} {v : Value} {rows : List (List Int)} {u : Value} {r : List Int} {p : Nat} {w1 : World} (h : CT B s c xs w b v rows u r p w1) (rs : List Int) (hl : rs.length ≤ maxLen) (o : Obj) (ho : o = .cells (ints rs).toArray 3) :
    CT B s c xs w w1.heap.size v rows (.slice (some ⟨w1.heap.size, 0, none⟩) rs.length rs.length) rs p (w1.alloc o) := by
  subst ho
  have k := h.alloc (.cells (ints rs).toArray 3)
  have h4 := own_of_blk (n := rs.length) (base := w1.heap.size) (size := 1) (blk_new w1 (.cells (ints rs).toArray 3)) (Nat.le_refl _) (by simp) hl
  exact ⟨k.out.up h.hb2, by simpa using h4, k.rd, k.kp, Nat.le_trans h.hb h.hb2, by simp, h.hB⟩

/-- An append of an int to the clause that is being drawn. -/
theorem CT.pushInt {B : Nat} {s : Option Addr} {c : Nat} {xs : List Int} {w : World} {b : Nat} {v : Value} {rows : List (List Int)} {u : Value} {r : List Int} {p : Nat} {w1 w2 : World} (h : CT B s c xs w b v rows u r p w1) (o : Obj) {s' : Option Addr} {c' : Nat} {x : Int}
    (hn : w2.ownsRow b 3 1 (.slice s' (r.length + 1) c') (r.length + 1) (ints r ++ [.int .i64 x])) (hg : (w1.alloc o).grownBy w2 u.ownBlock) : ∃ r' : List Int, r'.length = r.length + 1 ∧ CT B s c xs w b v rows (.slice s' r'.length c') r' p w2 := by
  have k := h.alloc o
  have h1 := h.hb; have h2 := h.hb2; have h3 := h.hB
  have hb : Below b (w1.alloc o) w2 := (Below.refl _ _).grown hg k.hb2 (fun q e => (own_blk h.cl e).1)
  have hs := hb.size
  refine ⟨r ++ [x], by simp, k.out.kp h.hB (Nat.le_refl _) (Kp.of_below hb), ?_, k.rd.grown hb (by omega), k.kp.trans ((Kp.of_below hb).mono h1), h1, by have := k.hb2; omega, h3⟩
  have e : ints (r ++ [x]) = ints r ++ [.int .i64 x] := by simp [ints]
  rw [e]; simpa using hn
/-- The clause becomes a row. -/
theorem CT.pushRow {B : Nat} {s : Option Addr} {c : Nat} {xs : List Int} {w : World} {b : Nat} {v : Value} {rows : List (List Int)} {u : Value} {r : List Int} {p : Nat} {w1 w2 : World} (h : CT B s c xs w b v rows u r p w1) (o : Obj) {vs : List Value} {s' : Option Addr} {c' : Nat}
    (hv : w1.ownsRow w.heap.size 36 1 v rows.length vs) (hn : w2.ownsRow w.heap.size 36 1 (.slice s' (rows.length + 1) c') (rows.length + 1) (vs ++ [u])) (hg : (w1.alloc o).grownBy w2 v.ownBlock) :
    ∃ rows' : List (List Int), rows'.length = rows.length + 1 ∧ (∀ q ∈ rows', q ∈ rows ∨ q = r) ∧ CT B s c xs w w2.heap.size (.slice s' rows'.length c') rows' (.slice none 0 0) [] p w2 := by
  have k := h.alloc o
  have h1 := h.hb; have h2 := h.hb2; have h3 := h.hB
  have hb : Below w.heap.size (w1.alloc o) w2 := (Below.refl _ _).grown hg (by have := k.hb2; omega) (fun q e => (own_blk hv e).1)
  have hs := hb.size
  have h5 := h.out.push h.cl h1 hv hn hg (fun q e => (own_blk hn e).2)
  have e : (rows ++ [r]).length = rows.length + 1 := by simp
  refine ⟨rows ++ [r], e, fun q hq => by simpa using hq, ?_⟩
  rw [e]
  exact ⟨h5, World.ownsRow_nil _ _ _ _, k.rd.grown hb (by omega), k.kp.trans (Kp.of_below hb), by have := k.hb2; omega, Nat.le_refl _, h3⟩
theorem CT.row {B : Nat} {s : Option Addr} {c : Nat} {xs : List Int} {w : World} {b : Nat} {v : Value} {rows : List (List Int)} {u : Value} {r : List Int} {p : Nat} {w1 : World} (h : CT B s c xs w b v rows u r p w1) : ∃ vs, w1.ownsRow w.heap.size 36 1 v rows.length vs := by
  obtain ⟨vs, h1, _⟩ := h.out
  exact ⟨vs, h1⟩

theorem Sl.new1 (w : World) (o : Obj) (cs : Array Value) (t : TypeId) : Sl ((w.alloc o).alloc (.cells cs t)) (some ⟨w.heap.size + 1, 0, none⟩) cs.toList := by
  have h := Sl.new (w.alloc o) cs t
  rwa [World.size_alloc] at h

def lenV : Value → Nat
  | .slice _ n _ => n
  | _ => 0

def PkPost (B : Nat) (s : Option Addr) (c : Nat) (xs : List Int) (w : World) (b : Nat) (v : Value) (rows : List (List Int)) (u : Value) (r : List Int) (p : Nat) (n : Int) (w1 : World) (e : Ending) (w' : World) : Prop :=
  ∃ k : Nat, e = .returned (.int .i64 (k : Int)) ∧ Picked n k ∧ k ≤ 1000000 ∧ CT B s c xs w b v rows u r (p + 1) w' ∧ Upd B w1 w'
theorem pick_ct (B : Nat) (s : Option Addr) (c : Nat) (xs : List Int) (w : World) (b : Nat) (v : Value) (rows : List (List Int)) (u : Value) (r : List Int) (p : Nat) (n : Int) (w1 : World) (h : CT B s c xs w b v rows u r p w1) (hp : p ≤ 1000000000) (hn : n ≤ 1000000) :
    Calls Try.prog 58 #[.pointer (some ⟨B, 0, none⟩), .int .i64 n] w1 (PkPost B s c xs w b v rows u r p n w1) :=
  (pick_any _ _ _ _ _ _ _ h.rd (by omega) (by omega)).mono fun _ _ ⟨k, h1, h2, h3, h4, h5⟩ => by
    obtain ⟨m, rfl⟩ : ∃ m : Nat, k = m := ⟨k.toNat, by have := h2.1; omega⟩
    exact ⟨m, h1, h2, by have := h2.2; omega, h.upd h3 h4, h4⟩

def OdPost (B : Nat) (s : Option Addr) (c : Nat) (xs : List Int) (w : World) (b : Nat) (v : Value) (rows : List (List Int)) (u : Value) (r : List Int) (p : Nat) (e : Ending) (w' : World) : Prop :=
  ∃ (k : Bool) (p' : Nat), e = .returned (.bool k) ∧ p' ≤ p + 1 ∧ CT B s c xs w b v rows u r p' w'
theorem odd_ct (B : Nat) (s : Option Addr) (c : Nat) (xs : List Int) (w : World) (b : Nat) (v : Value) (rows : List (List Int)) (u : Value) (r : List Int) (p : Nat) (n : Int) (w1 : World) (h : CT B s c xs w b v rows u r p w1) (hp : p ≤ 1000000000) (hn0 : -1000 ≤ n) (hn : n ≤ 1000000000) :
    Calls Try.prog 86 #[.pointer (some ⟨B, 0, none⟩), .int .i64 n] w1 (OdPost B s c xs w b v rows u r p) :=
  (odd_any _ _ _ _ _ _ _ h.rd (by omega) hn0 hn).mono fun _ _ ⟨k, p', h1, h2, h3, h4, _⟩ => ⟨k, p', h1, h2, h.upd h3 h4⟩

/-- What l20Clauses leaves. -/
def ClPost (B : Nat) (s : Option Addr) (c : Nat) (xs : List Int) (w : World) (e : Ending) (w' : World) : Prop :=
  ∃ (s' : Option Addr) (c' : Nat) (rows : List (List Int)) (p' : Nat), e = .returned (.slice s' rows.length c') ∧ OwnB w' w.heap.size w'.heap.size (.slice s' rows.length c') rows ∧ rows.length ≤ 81 ∧ (∀ r ∈ rows, r.length ≤ 4) ∧
    Rd w' B s c xs p' ∧ p' ≤ 1000000000 ∧ Kp B w.heap.size w w'

theorem CT.post {B : Nat} {s : Option Addr} {c : Nat} {xs : List Int} {w : World} {b : Nat} {s' : Option Addr} {c' : Nat} {rows : List (List Int)} {u : Value} {r : List Int} {p : Nat} {w1 : World} (h : CT B s c xs w b (.slice s' rows.length c') rows u r p w1) (h1 : rows.length ≤ 81) (h2 : ∀ q ∈ rows, q.length ≤ 4) (hp : p ≤ 1000000000) :
    ClPost B s c xs w (.returned (.slice s' rows.length c')) w1 := ⟨s', c', rows, p, rfl, h.out.up h.hb2, h1, h2, h.rd, hp, h.kp⟩

set_option maxRecDepth 100000 in
set_option maxHeartbeats 2000000 in
theorem l20Clauses_any (B : Nat) (s : Option Addr) (c : Nat) (xs : List Int) (p : Nat) (n : Int) (w : World) (h : Rd w B s c xs p) (hp : p ≤ 1000000) (hn : 0 ≤ n) (hn2 : n ≤ 1000) :
    Calls Try.prog 83 #[.pointer (some ⟨B, 0, none⟩), .int .i64 n] w (ClPost B s c xs w) := by
  have HK : Hid (CT B s c xs w (w.heap.size + 1) (.slice (some ⟨w.heap.size, 0, none⟩) 0 0) [] (.slice none 0 0) [] p (w.alloc (.cells #[] 36))) := by
    have hb := (Below.refl w.heap.size w).alloc (Nat.le_refl _) (.cells #[] 36)
    refine ⟨⟨[], ?_, by simp, by simp, ?_⟩, World.ownsRow_nil _ _ _ _, h.mono hb, Kp.of_below hb, by omega, by simp, blk_lt h.blk⟩
    · exact own_of_blk (n := 0) (blk_new _ _) (Nat.le_refl _) (by simp) (by unfold maxLen; omega)
    · intro k e; simp [Value.ownBlock] at e; omega
  clear h
  go_enter Try.func83, Try.ntmps83
  go_wp2_with (go_at_call 58; ((with_reducible refine (pick_ct _ _ _ _ _ _ _ _ _ _ _ _ _ HK.out (by omega) (by omega)).mono ?_); rintro e w' ⟨k, rfl, hk1, hk4, hk2, hk3⟩; have HK := Lib.hid hk2; have HP := Lib.hid hk1; clear hk1 hk2 hk3))
  rename_i w0 k0 hk0 HK0 HP0 _ _
  have hv : k0 ≤ 7 := by have := HP0.out.2; omega
  clear HK0 HP0
  go_loopw [5, 7] (fun v5 v7 wr => ∃ (s' : Option Addr) (c' : Nat) (rows : List (List Int)) (k p' : Nat), v5 = .slice s' rows.length c' ∧ v7 = .int .i64 k ∧ rows.length + k ≤ 29 ∧ (∀ r ∈ rows, r.length ≤ 3) ∧ CT B s c xs w wr.heap.size v5 rows (.slice none 0 0) [] p' wr ∧ p' + 10 * k ≤ p + 400) (fun _ i _ => (intOf i).toNat)
  case atStart =>
    exact ⟨_, 0, [], k, _, rfl, rfl, by simp; have := HP.out.2; omega, by simp, HK.out.up, by have := HP.out.2; omega⟩
  case round =>
    obtain ⟨s', c', rows, k, p', rfl, rfl, hk1, hk2, hk3, hk4⟩ := hrel
    by_cases hlt : 0 < k
    · have HR := Lib.hid hk2
      have HK : Hid (CT B s c xs w wr.heap.size (.slice s' rows.length c') rows (.slice (some ⟨wr.heap.size, 0, none⟩) 0 0) [] p' (wr.alloc (.cells #[] 3))) := Lib.hid (hk3.open [] (by simp) _ rfl)
      clear hk2 hk3
      go_wp2_with (go_at_call 58; ((with_reducible refine (pick_ct _ _ _ _ _ _ _ _ _ _ _ _ _ HK.out (by omega) (by omega)).mono ?_); rintro e w' ⟨j0, rfl, hk1, _, hk2, hk3⟩; have HK := Lib.hid hk2; have HP := Lib.hid hk1; clear hk1 hk2 hk3))
      have hj : j0 ≤ 2 := by have := HP.out.2; omega
      go_loopw [8, 9] (fun v8 v9 wr2 => ∃ (s2 : Option Addr) (c2 : Nat) (r : List Int) (j p2 : Nat), v8 = .slice s2 r.length c2 ∧ v9 = .int .i64 j ∧ r.length + j ≤ 3 ∧ CT B s c xs w wr.heap.size (.slice s' rows.length c') rows v8 r p2 wr2 ∧ p2 + 2 * j ≤ p' + 8) (fun _ i _ => (intOf i).toNat)
      case atStart =>
        exact ⟨_, 0, [], 1 + j0, _, rfl, by go_num, by simp; omega, HK.out, by omega⟩
      case round =>
        obtain ⟨s2, c2, r, j, p2, rfl, rfl, hj1, hj2, hj3⟩ := hrel
        have HK := Lib.hid hj2
        clear hj2
        by_cases hlt2 : 0 < j
        · go_wp2_with (first
            | (go_at_call 58; ((with_reducible refine (pick_ct _ _ _ _ _ _ _ _ _ _ _ _ _ HK.out (by omega) (by omega)).mono ?_); rintro e w' ⟨k, rfl, _, _, hk2, hk3⟩; have HK := Lib.hid hk2; clear hk2 hk3))
            | (at_builtin; refine wpl_app rfl (.tmp 38) (.tmp 40) rfl elem_int (HK.out.alloc _).cl rfl rfl rfl (Sl.new _ _ _) (by simp [Value.oneCell']) (r.length + 1) rfl _ rfl (by unfold maxLen; omega) (by omega) (HK.out.alloc _).hb2 ?_; intro s3 c3 w3 h3 _ hg _; have HA := Lib.hid (HK.out.pushInt _ h3 hg); clear h3 hg))
          all_goals go_roundw
          all_goals first
            | (case rel => (obtain ⟨r', hr1, hr2⟩ := HA.out; exact ⟨s3, c3, r', j - 1, p2 + 2, by rw [hr1], by go_num, by omega, by rw [← hr1]; exact hr2, by omega⟩))
            | (case measure => (simp [intOf]; omega))
        · obtain ⟨vs, hv⟩ := HK.out.row
          have HV := Lib.hid hv
          have hc1 : (r.length : Int) ≤ 3 := by omega
          clear hv
          go_wp2_with (at_builtin; refine wpl_app rfl (.tmp 42) (.tmp 44) rfl elem_ints (HV.out.alloc _) rfl rfl rfl (Sl.new _ _ _) (by simp [Value.oneCell']) (rows.length + 1) rfl _ rfl (by unfold maxLen; omega) (by omega) (by have h1 := (HK.out.alloc (.cells #[] 0)).hb2; have h2 := HK.out.hb; simp at h1 ⊢; omega) ?_; intro s3 c3 w3 h3 _ hg _; have HA := Lib.hid (HK.out.pushRow _ HV.out h3 hg); clear h3 hg)
          go_roundw
          case rel =>
            obtain ⟨rows', hr1, hr2, hr3⟩ := HA.out
            refine ⟨s3, c3, rows', k - 1, p2, by rw [hr1], by go_num, by omega, fun q hq => ?_, by rw [← hr1]; exact hr3, by omega⟩
            rcases hr2 q hq with h | rfl
            · exact HR.out q h
            · omega
          case measure => simp [intOf]; omega
    · have HR := Lib.hid hk2
      have HK := Lib.hid hk3
      clear hk2 hk3
      go_wp2_with (first
        | (go_at_call 86; ((with_reducible refine (odd_ct _ _ _ _ _ _ _ _ _ _ _ _ _ HK.out (by omega) (by omega) (by omega)).mono ?_); rintro e w' ⟨bb, p3, rfl, hp3, hk2⟩; have HK := Lib.hid hk2; clear hk2; cases bb))
        | (go_at_call 58; (with_reducible refine (pick_ct _ _ _ _ _ _ _ _ _ _ _ _ _ HK.out (by omega) (by omega)).mono ?_); rintro e w' ⟨kk, rfl, hk1, _, hk2, hk3⟩; have hkk : kk = 0 ∨ kk = 1 ∨ kk = 2 ∨ kk = 3 := (by have := hk1.2; omega); have HK := Lib.hid hk2; obtain ⟨vs, hv⟩ := hk2.row; have HV := Lib.hid hv; clear hk1 hk2 hk3 hv; (obtain rfl | rfl | rfl | rfl := hkk))
        | (go_at_call 58; (with_reducible refine (pick_ct _ _ _ _ _ _ _ _ _ _ _ _ _ (HK.out.alloc _) (by omega) (by omega)).mono ?_); rintro e w2 ⟨kk, rfl, hk1, _, hk2, hk3⟩; have hkk : kk = 0 ∨ kk = 1 ∨ kk = 2 := (by have := hk1.2; omega); have hcb := (hk3.block _ (by simp) (by have h1 := HK.out.hB; have h2 := HK.out.hb; have h3 := HK.out.hb2; simp; omega)).trans (blk_new _ _); have hc0 := blk_cell (o := 0) hcb; have hc1 := blk_cell (o := 1) hcb; have hc2 := blk_cell (o := 2) hcb; have HK := Lib.hid hk2; obtain ⟨vs, hv⟩ := hk2.row; have HV := Lib.hid hv; clear hk1 hk2 hk3 hv hcb; (obtain rfl | rfl | rfl := hkk))
        | (at_builtin; refine wpl_app rfl _ _ rfl elem_ints ((HV.out.alloc _).alloc _) rfl rfl rfl (Sl.new1 _ _ _ _) (by simp [Value.oneCell']) (rows.length + 1) rfl _ rfl (by unfold maxLen; omega) (by omega) (by have h1 := HK.out.hb2; have h2 := HK.out.hb; simp at h1 ⊢; omega) ?_; intro s3 c3 w3 h3 _ hg _; (first
          | have HA := Lib.hid ((HK.out.open [0] (by simp [maxLen]) _ rfl).pushRow _ (HV.out.alloc _) h3 hg)
          | have HA := Lib.hid ((HK.out.open [26] (by simp [maxLen]) _ rfl).pushRow _ (HV.out.alloc _) h3 hg)
          | have HA := Lib.hid ((HK.out.open [-26] (by simp [maxLen]) _ rfl).pushRow _ (HV.out.alloc _) h3 hg)
          | have HA := Lib.hid ((HK.out.open [-9223372036854775808] (by simp [maxLen]) _ rfl).pushRow _ (HV.out.alloc _) h3 hg)
          | have HA := Lib.hid ((HK.out.open [1, 2, 3, 4] (by simp [maxLen]) _ rfl).pushRow _ (HV.out.alloc _) h3 hg)); clear h3 hg))
      all_goals first
        | (go_ret; (first
          | exact HK.out.post (by omega) (fun q hq => by have := HR.out q hq; omega) (by omega)
          | (obtain ⟨rows', hr1, hr2, hr3⟩ := HA.out
             rw [← hr1]
             refine hr3.post (by omega) (fun q hq => ?_) (by omega)
             rcases hr2 q hq with h | rfl
             · have := HR.out q h; omega
             · simp)))
        | skip
      go_loopw [5] (fun v5 wr => ∃ (s' : Option Addr) (c' : Nat) (rows : List (List Int)) (p' : Nat), v5 = .slice s' rows.length c' ∧ rows.length ≤ 81 ∧ (∀ r ∈ rows, r.length ≤ 3) ∧ CT B s c xs w wr.heap.size v5 rows (.slice none 0 0) [] p' wr ∧ p' ≤ p + 1000) (fun v _ => 81 - lenV v)
      case atStart => exact ⟨s', c', rows, _, rfl, by omega, HR.out, HK.out.up, by omega⟩
      case round =>
        clear HV HK HR
        obtain ⟨s', c', rows, p', rfl, hk1, hk2, hk3, hk4⟩ := hrel
        have HR := Lib.hid hk2
        have HK := Lib.hid hk3
        obtain ⟨vs, hv⟩ := hk3.row
        have HV := Lib.hid hv
        clear hk2 hk3 hv
        by_cases hlt : rows.length ≤ 80
        · go_wp2_with (at_builtin; refine wpl_app rfl _ _ rfl elem_ints ((HV.out.alloc _).alloc _) rfl rfl rfl (Sl.new1 _ _ _ _) (by simp [Value.oneCell']) (rows.length + 1) rfl _ rfl (by unfold maxLen; omega) (by omega) (by have h1 := HK.out.hb2; have h2 := HK.out.hb; simp at h1 ⊢; omega) ?_; intro s3 c3 w3 h3 _ hg _; have HA := Lib.hid ((HK.out.open [1] (by simp [maxLen]) _ rfl).pushRow _ (HV.out.alloc _) h3 hg); clear h3 hg)
          go_roundw
          case rel =>
            obtain ⟨rows', hr1, hr2, hr3⟩ := HA.out
            refine ⟨s3, c3, rows', p', by rw [hr1], by omega, fun q hq => ?_, by rw [← hr1]; exact hr3, by omega⟩
            rcases hr2 q hq with h | rfl
            · exact HR.out q h
            · simp
          case measure => simp [lenV]; omega
        · go_wp2
          go_ret
          exact HK.out.post (by omega) (fun q hq => by have := HR.out q hq; omega) (by omega)

end Go.Proofs.Ytddmgphlhfilnaa
