import Derived.Test.YtddmgphlhfilnaaCD
import Derived.Test.YtddmgphlhfilnaaP1
namespace Go.Proofs.Ytddmgphlhfilnaa
set_option linter.unusedVariables false
set_option linter.unusedSimpArgs false
open Go.RowKit

/-! Satisfy of the program. -/

theorem litSign_any (s : Option Addr) (vs : List Int) (cap : Nat) (n : Int) (w : World) (h : Sl w s (ints vs)) (hv : WV vs) (hn : lit25 n) :
    Calls Try.prog 111 #[.slice s 26 cap, .int .i64 n] w fun e w' => e = .returned (.int .i64 (litV vs n)) ∧ w = w' := by
  obtain ⟨q, q1, q2, q3⟩ := setL_var hn
  obtain ⟨x, hx⟩ := get_of_lt (l := vs) (k := q) (by rw [hv.len]; exact q2)
  obtain ⟨x1, x2⟩ := hv.mem hx
  obtain ⟨b, off, rfl, hbw, hz⟩ := h.int (Below.refl _ _) hx
  have H := Lib.hid (And.intro hx hv)
  clear hx hv h hn
  rcases q3 with ⟨q3, rfl⟩ | ⟨q3, rfl⟩
  · rw [litV_neg (by omega) H.out.1]
    go_enter Try.func111, Try.ntmps111
    go_wp2
    go_ret
    exact ⟨rfl, rfl⟩
  · rw [litV_pos H.out.1]
    go_enter Try.func111, Try.ntmps111
    go_wp2
    go_ret
    exact ⟨rfl, rfl⟩

def un1 (vs c : List Int) (u : Int) : Prop := (u = 0 ∧ ∀ n ∈ c, litV vs n = -1) ∨ (u ≠ 0 ∧ u ∈ c ∧ litV vs u = 0 ∧ ∀ n ∈ c, n ≠ u → litV vs n = -1)
theorem un1_nil (vs : List Int) : un1 vs [] 0 := .inl ⟨rfl, by simp⟩
theorem un1_false {vs c : List Int} {u n : Int} {k : Nat} (h : un1 vs (c.take k) u) (hn : c[k]? = some n) (hv : litV vs n = -1) : un1 vs (c.take (k + 1)) u := by
  have e : c.take (k + 1) = c.take k ++ [n] := by rw [List.take_add_one, hn]; rfl
  rw [e]
  rcases h with ⟨h2, h3⟩ | ⟨h1, h2, h3, h4⟩
  · exact .inl ⟨h2, fun m hm => by rcases List.mem_append.1 hm with hm | hm; exact h3 m hm; simp at hm; subst hm; exact hv⟩
  · exact .inr ⟨h1, List.mem_append_left _ h2, h3, fun m hm hne => by rcases List.mem_append.1 hm with hm | hm; exact h4 m hm hne; simp at hm; subst hm; exact hv⟩
theorem un1_open {vs c : List Int} {u n : Int} {k : Nat} (h : un1 vs (c.take k) u) (hn : c[k]? = some n) (hv : litV vs n = 0) (h0 : n ≠ 0) (hu : u = 0 ∨ u = n) : un1 vs (c.take (k + 1)) n := by
  have e : c.take (k + 1) = c.take k ++ [n] := by rw [List.take_add_one, hn]; rfl
  rw [e]
  refine .inr ⟨h0, List.mem_append_right _ (by simp), hv, fun m hm hne => ?_⟩
  rcases List.mem_append.1 hm with hm | hm
  · rcases h with ⟨h2, h3⟩ | ⟨h1, h2, h3, h4⟩
    · exact h3 m hm
    · rcases hu with hu | hu
      · exact absurd hu h1
      · exact h4 m hm (by rw [hu]; exact hne)
  · simp at hm; exact absurd hm hne
/-- What a clause asks for. -/
def unP (vs c : List Int) (l : Int) (ok : Bool) : Prop :=
  (ok = false ∧ l = 0 ∧ ∀ n ∈ c, litV vs n = -1) ∨ (ok = true ∧ l = 0 ∧ okC vs c) ∨ (ok = true ∧ l ≠ 0 ∧ l ∈ c ∧ litV vs l = 0 ∧ ∀ n ∈ c, n ≠ l → litV vs n = -1)
def UnPost (vs c : List Int) (w : World) (e : Ending) (w' : World) : Prop := ∃ (l : Int) (ok : Bool), e = .returned (.tuple #[.int .i64 l, .bool ok]) ∧ unP vs c l ok ∧ w = w'

set_option maxHeartbeats 1600000 in
theorem unit_any (s sc : Option Addr) (vs c : List Int) (cap cc : Nat) (w : World) (h : Sl w s (ints vs)) (hv : WV vs) (hc : Sl w sc (ints c)) (h25 : ∀ n ∈ c, lit25 n) (hl : c.length ≤ 3) :
    Calls Try.prog 105 #[.slice sc c.length cc, .slice s 26 cap] w (UnPost vs c w) := by
  have H : Hid (Sl w s (ints vs) ∧ WV vs ∧ Sl w sc (ints c) ∧ ∀ n ∈ c, lit25 n) := ⟨h, hv, hc, h25⟩
  clear h hv hc h25
  go_enter Try.func105, Try.ntmps105
  go_wp2_with fail
  go_loop [6, 12] (fun v6 v12 => ∃ (k : Nat) (u : Int), k ≤ c.length ∧ v12 = .int .i64 k ∧ v6 = .int .i64 u ∧ un1 vs (c.take k) u) (fun _ v12 => c.length - (intOf v12).toNat)
  case atStart => exact ⟨0, 0, Nat.zero_le _, rfl, rfl, un1_nil _⟩
  case round =>
    obtain ⟨k, u, hk, rfl, rfl, hp⟩ := hrel
    have HP := Lib.hid hp
    clear hp
    by_cases hlt : k < c.length
    · obtain ⟨n, hn⟩ := get_of_lt hlt
      have hn25 := H.out.2.2.2 n (List.mem_of_getElem? hn)
      obtain ⟨n0, n1, n2⟩ := id hn25
      obtain ⟨b, off, rfl, hbw, hz⟩ := H.out.2.2.1.int (Below.refl _ _) hn
      have htri := litV_tri H.out.2.1 n
      obtain ⟨x, hx⟩ : ∃ x, x = litV vs n := ⟨_, rfl⟩
      rw [← hx] at htri
      have HN := Lib.hid (And.intro hn (And.intro hx (And.intro hn25 n0)))
      clear hn hx hn25 n0
      rcases htri with rfl | rfl | rfl
      · by_cases hu0 : u = 0
        · subst hu0
          go_wp2_with (go_at_call 111; ((with_reducible refine (litSign_any s vs _ n _ H.out.1 H.out.2.1 HN.out.2.2.1).mono ?_); rintro e w1 ⟨rfl, rfl⟩; rw [← HN.out.2.1]))
          go_round
          case rel => exact ⟨k + 1, n, by omega, by go_num, rfl, un1_open HP.out HN.out.1 HN.out.2.1.symm HN.out.2.2.2 (.inl rfl)⟩
          case measure => simp [intOf]; omega
        · by_cases hun : u = n
          · subst hun
            have hb1 : (u != 0) = true := by simpa using hu0
            have hb2 : (u != u) = false := by simp
            go_wp2_with (go_at_call 111; ((with_reducible refine (litSign_any s vs _ u _ H.out.1 H.out.2.1 HN.out.2.2.1).mono ?_); rintro e w1 ⟨rfl, rfl⟩; rw [← HN.out.2.1]))
            go_round
            case rel => exact ⟨k + 1, u, by omega, by go_num, rfl, un1_open HP.out HN.out.1 HN.out.2.1.symm HN.out.2.2.2 (.inr rfl)⟩
            case measure => simp [intOf]; omega
          · have hb1 : (u != 0) = true := by simpa using hu0
            have hb2 : (u != n) = true := by simpa using hun
            go_wp2_with (go_at_call 111; ((with_reducible refine (litSign_any s vs _ n _ H.out.1 H.out.2.1 HN.out.2.2.1).mono ?_); rintro e w1 ⟨rfl, rfl⟩; rw [← HN.out.2.1]))
            exact bodyPost_ret (v := .tuple #[.int .i64 0, .bool true]) (by simp [results, Try.results105, go_sem]) rfl ⟨0, true, rfl, .inr (.inl ⟨rfl, rfl, n, List.mem_of_getElem? HN.out.1, .inr HN.out.2.1.symm⟩), rfl⟩
      · go_wp2_with (go_at_call 111; ((with_reducible refine (litSign_any s vs _ n _ H.out.1 H.out.2.1 HN.out.2.2.1).mono ?_); rintro e w1 ⟨rfl, rfl⟩; rw [← HN.out.2.1]))
        exact bodyPost_ret (v := .tuple #[.int .i64 0, .bool true]) (by simp [results, Try.results105, go_sem]) rfl ⟨0, true, rfl, .inr (.inl ⟨rfl, rfl, n, List.mem_of_getElem? HN.out.1, .inl HN.out.2.1.symm⟩), rfl⟩
      · go_wp2_with (go_at_call 111; ((with_reducible refine (litSign_any s vs _ n _ H.out.1 H.out.2.1 HN.out.2.2.1).mono ?_); rintro e w1 ⟨rfl, rfl⟩; rw [← HN.out.2.1]))
        go_round
        case rel => exact ⟨k + 1, u, by omega, by go_num, rfl, un1_false HP.out HN.out.1 HN.out.2.1.symm⟩
        case measure => simp [intOf]; omega
    · obtain rfl : k = c.length := by omega
      have hp := HP.out
      rw [List.take_length] at hp
      rcases hp with ⟨rfl, hq⟩ | ⟨hu0, hq⟩
      · have HQ := Lib.hid hq
        clear hq
        go_wp2_with fail
        exact bodyPost_ret (v := .tuple #[.int .i64 0, .bool false]) (by simp [results, Try.results105, go_sem]) rfl ⟨0, false, rfl, .inl ⟨rfl, rfl, HQ.out⟩, rfl⟩
      · have HQ := Lib.hid (And.intro hu0 hq)
        have hb1 : (u != 0) = true := by simpa using hu0
        clear hq
        go_wp2_with fail
        exact bodyPost_ret (v := .tuple #[.int .i64 u, .bool true]) (by simp [results, Try.results105, go_sem]) rfl ⟨u, true, rfl, .inr (.inr ⟨rfl, HQ.out⟩), rfl⟩

theorem assign_any (G : Nat) (vs : List Int) (n : Int) (w : World) (h : w.heap[G]? = some (.cells (ints vs).toArray 3 (0, 0))) (hv : WV vs) (hn : lit25 n) :
    Calls Try.prog 106 #[.slice (some ⟨G, 0, none⟩) 26 26, .int .i64 n] w fun e w' => e = .returned (.tuple #[]) ∧ w'.heap[G]? = some (.cells (ints (setL vs n)).toArray 3 (0, 0)) ∧ Chg (fun k => k = G) w w' := by
  obtain ⟨q, q1, q2, q3⟩ := setL_var hn
  obtain ⟨x, hx⟩ := get_of_lt (l := vs) (k := q) (by rw [hv.len]; exact q2)
  have z1 := ints_cell h hx
  have z2 : w.frozen? ⟨G, q, none⟩ = false := blk_free h
  have hch : ∀ v : Int, Chg (fun k => k = G) w (w.setCell ⟨G, q, none⟩ (.int .i64 v)) := fun v => ⟨rfl, rfl, rfl, by simp, fun k hk hne => blk_set_ne (Ne.symm hne) rfl⟩
  have H := Lib.hid (And.intro h hch)
  clear h hv hn hx hch
  rcases q3 with ⟨q3, rfl⟩ | ⟨q3, rfl⟩
  · have e : setL vs (-(q : Int)) = vs.set q (-1) := by unfold setL; rw [if_pos q3]; simp
    rw [e]
    clear e
    go_enter Try.func106, Try.ntmps106
    go_wp2
    exact bodyPost_end (v := .tuple #[]) (by simp [results, Try.results106, go_sem]) rfl ⟨rfl, ints_blk_set H.out.1 q (-1), H.out.2 _⟩
  · have e : setL vs (q : Int) = vs.set q 1 := by unfold setL; rw [if_neg (by omega)]; simp
    rw [e]
    clear e
    go_enter Try.func106, Try.ntmps106
    go_wp2
    exact bodyPost_end (v := .tuple #[]) (by simp [results, Try.results106, go_sem]) rfl ⟨rfl, ints_blk_set H.out.1 q 1, H.out.2 _⟩

def tvar (l : Int) : Nat := if l < 0 then (-l).toNat else l.toNat
theorem tvar_lt {l : Int} (h : lit25 l) : 1 ≤ tvar l ∧ tvar l < 26 := by
  obtain ⟨h0, h1, h2⟩ := h
  unfold tvar; split <;> omega
theorem tvar_val {vs : List Int} {l : Int} (h : litV vs l = 0) : vs.getD (tvar l) 0 = 0 := by
  unfold litV at h; unfold tvar
  split at h
  · rename_i e; rw [if_pos e]; omega
  · rename_i e; rw [if_neg e]; exact h
theorem setL_get {vs : List Int} {l : Int} (hv : WV vs) (h : lit25 l) (i : Nat) : (setL vs l).getD i 0 = if tvar l = i then (if l < 0 then -1 else 1) else vs.getD i 0 := by
  have hl := hv.len
  obtain ⟨h0, h1, h2⟩ := h
  unfold setL tvar
  by_cases e : l < 0
  · rw [if_pos e, if_pos e, if_pos e, getD_set _ _ _ _ (by omega)]
  · rw [if_neg e, if_neg e, if_neg e, getD_set _ _ _ _ (by omega)]
/-- The trail: what has been assigned. -/
structure TR (vs us tr : List Int) : Prop where
  wv : WV vs
  wu : WV us
  lits : ∀ l ∈ tr, lit25 l
  same : ∀ i, us.getD i 0 = vs.getD i 0 ∨ ∃ l ∈ tr, tvar l = i
  old : ∀ l ∈ tr, vs.getD (tvar l) 0 = 0
  new : ∀ l ∈ tr, us.getD (tvar l) 0 ≠ 0
  few : tr.length + zc us = zc vs
theorem TR.nil {vs : List Int} (h : WV vs) : TR vs vs [] := ⟨h, h, by simp, fun i => .inl rfl, by simp, by simp, by simp⟩
theorem TR.push {vs us tr : List Int} {l : Int} (h : TR vs us tr) (hl : lit25 l) (h0 : litV us l = 0) : TR vs (setL us l) (tr ++ [l]) := by
  have hz := tvar_val h0
  refine ⟨h.wv, h.wu.putL hl, fun m hm => ?_, fun i => ?_, fun m hm => ?_, fun m hm => ?_, ?_⟩
  · rcases List.mem_append.1 hm with hm | hm
    · exact h.lits m hm
    · simp at hm; rw [hm]; exact hl
  · rw [setL_get h.wu hl]
    by_cases e : tvar l = i
    · exact .inr ⟨l, by simp, e⟩
    · rw [if_neg e]
      rcases h.same i with h1 | ⟨m, h1, h2⟩
      · exact .inl h1
      · exact .inr ⟨m, List.mem_append_left _ h1, h2⟩
  · rcases List.mem_append.1 hm with hm | hm
    · exact h.old m hm
    · simp at hm; subst hm
      rcases h.same (tvar m) with h1 | ⟨k, h1, h2⟩
      · rw [← h1]; exact hz
      · exact absurd (by rw [h2]; exact hz) (h.new k h1)
  · rw [setL_get h.wu hl]
    by_cases e : tvar l = tvar m
    · rw [if_pos e]; split <;> omega
    · rw [if_neg e]
      rcases List.mem_append.1 hm with hm | hm
      · exact h.new m hm
      · simp at hm; subst hm; exact absurd rfl e
  · have h1 := h.few
    have h2 := zc_setL h.wu hl h0
    simp; omega
theorem getD_ext {a b : List Int} (ha : a.length = 26) (hb : b.length = 26) (h : ∀ i, a.getD i 0 = b.getD i 0) : a = b := by
  refine List.ext_getElem? fun i => ?_
  by_cases hi : i < 26
  · obtain ⟨x, hx⟩ := get_of_lt (l := a) (k := i) (by omega)
    obtain ⟨y, hy⟩ := get_of_lt (l := b) (k := i) (by omega)
    have := h i
    rw [List.getD_eq_getElem?_getD, List.getD_eq_getElem?_getD, hx, hy] at this
    simp at this
    rw [hx, hy, this]
  · rw [List.getElem?_eq_none (by omega), List.getElem?_eq_none (by omega)]
/-- What is left after k assignments have been undone. -/
def unD (us tr ys : List Int) (k : Nat) : Prop := ys.length = 26 ∧ (∀ l ∈ tr.take k, ys.getD (tvar l) 0 = 0) ∧ ∀ i, ys.getD i 0 = us.getD i 0 ∨ (ys.getD i 0 = 0 ∧ ∃ l ∈ tr, tvar l = i)
theorem unD_step {us tr ys : List Int} {k : Nat} {l : Int} (h : unD us tr ys k) (hl : tr[k]? = some l) (h25 : lit25 l) : unD us tr (ys.set (tvar l) 0) (k + 1) := by
  obtain ⟨h1, h2, h3⟩ := h
  have ht := (tvar_lt h25).2
  refine ⟨by simpa using h1, fun m hm => ?_, fun i => ?_⟩
  · rw [getD_set _ _ _ _ (by omega)]
    split
    · rfl
    · rename_i hne
      rw [List.take_add_one, hl] at hm
      rcases List.mem_append.1 hm with hm | hm
      · exact h2 m hm
      · simp at hm; rw [hm] at hne; exact absurd rfl hne
  · rw [getD_set _ _ _ _ (by omega)]
    by_cases e : tvar l = i
    · rw [if_pos e]; exact .inr ⟨rfl, l, List.mem_of_getElem? hl, e⟩
    · rw [if_neg e]; exact h3 i
theorem unD_end {vs us tr ys : List Int} (h : unD us tr ys tr.length) (ht : TR vs us tr) : ys = vs := by
  obtain ⟨h1, h2, h3⟩ := h
  rw [List.take_length] at h2
  refine getD_ext h1 ht.wv.len fun i => ?_
  by_cases hx : ∃ l ∈ tr, tvar l = i
  · obtain ⟨l, hl, rfl⟩ := hx
    rw [h2 l hl, ht.old l hl]
  · rcases h3 i with h | h
    · rcases ht.same i with k | k
      · rw [h, k]
      · exact absurd k hx
    · exact absurd h.2 hx
/-- The state of satisfy in world W. -/
structure SW (w : World) (G P3 P5 : Nat) (us tr : List Int) (vt : Value) (W : World) : Prop where
  g : W.heap[G]? = some (.cells (ints us).toArray 3 (0, 0))
  b3 : W.heap[P3]? = some (.cells #[.slice (some ⟨G, 0, none⟩) 26 26] 36 (0, 0))
  b5 : W.heap[P5]? = some (.cells #[vt] 36 (0, 0))
  ow : W.ownsRow w.heap.size 3 1 vt tr.length (ints tr)
  chg : Chg (fun k => k = G) w W
  hG : G < w.heap.size
  h3 : w.heap.size ≤ P3
  h5 : w.heap.size ≤ P5
theorem SW.putG {w W W' : World} {G P3 P5 : Nat} {us us' tr : List Int} {vt : Value} (h : SW w G P3 P5 us tr vt W) (hc : Chg (fun k => k = G) W W') (hg : W'.heap[G]? = some (.cells (ints us').toArray 3 (0, 0))) : SW w G P3 P5 us' tr vt W' :=
  have e1 := h.hG; have e2 := h.h3; have e3 := h.h5
  ⟨hg, hc.blk h.b3 (by omega), hc.blk h.b5 (by omega), hc.own h.ow (fun k hk hs => by have := (own_blk h.ow hk).1; omega), h.chg.trans hc, h.hG, h.h3, h.h5⟩
theorem SW.below {w W W' : World} {G P3 P5 : Nat} {us tr : List Int} {vt : Value} (h : SW w G P3 P5 us tr vt W) (hb : Below W.heap.size W W') : SW w G P3 P5 us tr vt W' :=
  h.putG (Chg.of_below hb) (blk_below hb (blk_lt h.g) h.g)

set_option maxHeartbeats 800000 in
theorem undo_any (w : World) (G P3 P5 : Nat) (vs us tr : List Int) (st : Option Addr) (ct : Nat) (W : World) (h : SW w G P3 P5 us tr (.slice st tr.length ct) W) (ht : TR vs us tr) (hl : tr.length ≤ 26) :
    Calls Try.prog 104 #[.pointer (some ⟨P5, 0, none⟩), .pointer (some ⟨P3, 0, none⟩)] W fun e w' => e = .returned (.bool false) ∧ w'.heap[G]? = some (.cells (ints vs).toArray 3 (0, 0)) ∧ Chg (fun k => k = G) W w' := by
  have H := Lib.hid (And.intro h ht)
  have c5 : W.cell? ⟨P5, 0, none⟩ = some (.slice st tr.length ct) := blk_cell h.b5
  clear h ht
  go_enter Try.func104, Try.ntmps104
  go_wp2_with fail
  clear c5
  go_loopw [7] (fun v7 wr => ∃ (k : Nat) (ys : List Int), k ≤ tr.length ∧ v7 = .int .i64 k ∧ unD us tr ys k ∧ wr.heap[G]? = some (.cells (ints ys).toArray 3 (0, 0)) ∧ Chg (fun k => k = G) W wr) (fun v7 _ => tr.length - (intOf v7).toNat)
  case atStart => exact ⟨0, us, Nat.zero_le _, rfl, ⟨H.out.2.wu.len, by simp, fun i => .inl rfl⟩, H.out.1.g, Chg.refl _ _⟩
  case round =>
    obtain ⟨k, ys, hk, rfl, hu, hg, hc⟩ := hrel
    by_cases hlt : k < tr.length
    · obtain ⟨l, hlk⟩ := get_of_lt hlt
      have h25 := H.out.2.lits l (List.mem_of_getElem? hlk)
      have hsw := H.out.1.putG hc hg
      have c3 : wr.cell? ⟨P3, 0, none⟩ = some (.slice (some ⟨G, 0, none⟩) 26 26) := blk_cell hsw.b3
      obtain ⟨b, off, rfl, hbw, hz⟩ := (own_sl hsw.ow).int (Below.refl _ _) hlk
      obtain ⟨T, t1, t2, t3⟩ := setL_var h25
      obtain ⟨y, hy⟩ := get_of_lt (l := ys) (k := T) (by rw [hu.1]; exact t2)
      have z1 := ints_cell hg hy
      have z2 : wr.frozen? ⟨G, T, none⟩ = false := blk_free hg
      have hT : tvar l = T := by unfold tvar; rcases t3 with ⟨h1, rfl⟩ | ⟨h1, rfl⟩ <;> split <;> omega
      have hst := unD_step hu hlk h25
      have hbs := ints_blk_set hg T 0
      rw [hT] at hst
      have hc2 : Chg (fun k => k = G) W (wr.setCell ⟨G, T, none⟩ (.int .i64 0)) := hc.trans ⟨rfl, rfl, rfl, by simp, fun k hk hne => blk_set_ne (Ne.symm hne) rfl⟩
      have HQ := Lib.hid (And.intro hst (And.intro hbs hc2))
      clear hlk h25 hsw hbw hy hT hst hbs hc2 hg hc hu
      have hm1 : max (T : Int) (-(T : Int)) = (T : Int) := by omega
      have hm2 : max (-(T : Int)) (T : Int) = (T : Int) := by omega
      rcases t3 with ⟨t3, rfl⟩ | ⟨t3, rfl⟩
      all_goals
        go_wp2_with fail
      all_goals first
        | (exfalso; omega)
        | skip
      all_goals
        go_roundw
      all_goals first
        | (case rel => exact ⟨k + 1, ys.set T 0, by omega, by go_num, HQ.out.1, HQ.out.2.1, HQ.out.2.2⟩)
        | (case measure => simp [intOf]; omega)
    · obtain rfl : k = tr.length := by omega
      have e := unD_end hu H.out.2
      subst e
      have HQ := Lib.hid (And.intro hg hc)
      clear hg hc hu
      go_wp2_with fail
      go_ret
      exact ⟨rfl, HQ.out.1, HQ.out.2⟩

end Go.Proofs.Ytddmgphlhfilnaa
