import Derived.Test.YtnifgamlmaembaaDoorTH
namespace Go.Proofs.YtnifgamlmaembaaDoor
set_option linter.unusedVariables false
set_option linter.unusedSimpArgs false
open Go.RowKit

/-! numbers of the program. -/

def numsB (ws : List Tx) : Bool := ws.all fun x => decide (0 ≤ numP x)
theorem numsB_snoc {ws : List Tx} {k : Nat} {x : Tx} (h : ws[k]? = some x) : numsB (ws.take (k + 1)) = (numsB (ws.take k) && decide (0 ≤ numP x)) := by
  unfold numsB; rw [List.take_add_one, h]; simp
theorem numsB_bad {ws : List Tx} {k : Nat} {x : Tx} (h : ws[k]? = some x) (hx : numP x = -1) : numsB ws = false := by
  unfold numsB
  rw [List.all_eq_false]
  exact ⟨x, List.mem_of_getElem? h, by rw [hx]; decide⟩
def NbPost (ws : List Tx) (w : World) (e : Ending) (w' : World) : Prop :=
  Below w.heap.size w w' ∧ ((numsB ws = true ∧ ∃ s cap, e = .returned (.tuple #[.slice s ws.length cap, .bool true]) ∧ w'.ownsRow w.heap.size 3 1 (.slice s ws.length cap) ws.length (ints (ws.map numP))) ∨ (numsB ws = false ∧ e = .returned (.tuple #[.slice none 0 0, .bool false])))

theorem numP_of_atoi {x : Tx} {v : Int} (ha : Lib.atoiAll x = .ok v) (h : v < 0 ∨ 99 < v ∨ ∀ n : Nat, v = n → Lib.decDigits n ≠ x) : numP x = -1 :=
  numP_none fun n hn e => by
    rw [e, atoi_dec hn] at ha
    injection ha with ha
    rcases h with h | h | h
    · omega
    · omega
    · exact h n ha.symm e.symm

structure NbW (w : World) (ws : List Tx) (k : Nat) (v : Value) (W : World) : Prop where
  own : W.ownsRow w.heap.size 3 1 v k (ints ((ws.take k).map numP))
  ok : numsB (ws.take k) = true
  bel : Below w.heap.size w W
theorem NbW.below {w W W' : World} {ws : List Tx} {k : Nat} {v : Value} (h : NbW w ws k v W) (hb : Below W.heap.size W W') : NbW w ws k v W' := ⟨own_below h.own hb, h.ok, h.bel.trans (hb.mono h.bel.size)⟩
theorem NbW.alloc {w W : World} {ws : List Tx} {k : Nat} {v : Value} (h : NbW w ws k v W) (o : Obj) : NbW w ws k v (W.alloc o) := h.below ((Below.refl _ _).alloc (Nat.le_refl _) _)

set_option maxRecDepth 100000 in
set_option maxHeartbeats 1600000 in
theorem numbers_any (s0 : Option Addr) (cap0 : Nat) (ws : List Tx) (w : World) (hs : Sl w s0 (strs ws)) (hl : ws.length ≤ 2000000) (hx : ∀ x ∈ ws, x.length ≤ 1048576) (hg : Gl w) :
    Calls Tryd.prog 42 #[.slice s0 ws.length cap0] w (NbPost ws w) := by
  have HS := Lib.hid (And.intro hs (And.intro hx hg))
  clear hs hx hg
  go_enter Tryd.func42, Tryd.ntmps42
  go_wp2_with fail
  go_loopw [11, 4] (fun v11 v4 wr => ∃ (k : Nat) (s : Option Addr) (cap : Nat), k ≤ ws.length ∧ v11 = .int .i64 k ∧ v4 = .slice s k cap ∧ NbW w ws k (.slice s k cap) wr) (fun v11 _ _ => ws.length - (intOf v11).toNat)
  case atStart => exact ⟨0, none, 0, Nat.zero_le _, rfl, rfl, World.ownsRow_nil _ _ _ _, rfl, Below.refl _ _⟩
  case round =>
    obtain ⟨k, s, cap, hk, rfl, rfl, hw⟩ := hrel
    have HW := Lib.hid hw
    clear hw
    by_cases hlt : k < ws.length
    · obtain ⟨x, hxk⟩ := get_of_lt hlt
      obtain ⟨sb, so, rfl, hsb, zs⟩ := HS.out.1.str HW.out.bel hxk
      have hx1 := HS.out.2.1 x (List.mem_of_getElem? hxk)
      have HX := Lib.hid hxk
      clear hxk hsb
      unfold sv at zs
      have hgw := Lib.hid (HS.out.2.2.mono (B := w.heap.size) HS.out.2.2.sz HW.out.bel)
      go_upto_region 6 with (go_at_call 63; go_loud (refine (atoi_any x hx1 _ hgw.out).mono ?_; rintro e w2 ⟨hb, h⟩; have HW2 := Lib.hid (HW.out.below hb); clear hb zs; rcases h with ⟨v, ha, hv1, hv2, rfl⟩ | ⟨y, N, hn, rfl⟩))
      · by_cases hv0 : v < 0
        · have HE := Lib.hid (numP_of_atoi ha (.inl hv0))
          clear ha
          go_wp2_with fail
          exact bodyPost_ret (v := .tuple #[.slice none 0 0, .bool false]) (by simp [results, Tryd.results42, go_sem]) rfl ⟨HW2.out.bel, .inr ⟨numsB_bad HX.out HE.out, rfl⟩⟩
        · by_cases hv9 : 99 < v
          · have HE := Lib.hid (numP_of_atoi ha (.inr (.inl hv9)))
            clear ha
            go_wp2_with fail
            exact bodyPost_ret (v := .tuple #[.slice none 0 0, .bool false]) (by simp [results, Tryd.results42, go_sem]) rfl ⟨HW2.out.bel, .inr ⟨numsB_bad HX.out HE.out, rfl⟩⟩
          · obtain ⟨n, rfl⟩ : ∃ n : Nat, v = n := ⟨v.toNat, by omega⟩
            have hn1 : n < 100 := by omega
            cases hq : (Lib.decDigits n == x)
            · have HE := Lib.hid (numP_of_atoi ha (.inr (.inr fun m hm e => by have e1 : n = m := (by omega); subst e1; exact absurd hq (by rw [e]; simp))))
              clear ha hv1 hv2 hv0 hv9
              go_wp2_with (go_at_call 58; refine (strconv_Itoa_small n hn1 _).mono ?_; rintro e w3 ⟨rfl, rfl⟩)
              exact bodyPost_ret (v := .tuple #[.slice none 0 0, .bool false]) (by simp [results, Tryd.results42, go_sem]) rfl ⟨HW2.out.bel, .inr ⟨numsB_bad HX.out HE.out, rfl⟩⟩
            · have hnp : numP x = n := by rw [← eq_of_beq hq]; exact numP_dec hn1
              have HE := Lib.hid hnp
              clear ha hv1 hv2 hv0 hv9 hnp
              go_wp2_with (first
                | (go_at_call 58; refine (strconv_Itoa_small n hn1 _).mono ?_; rintro e w3 ⟨rfl, rfl⟩)
                | (at_builtin; go_loud (refine wpl_app rfl _ _ rfl elem_int (HW2.out.alloc _).own rfl rfl rfl (Sl.new _ _ _) (by simp [Value.oneCell']) (k + 1) rfl _ rfl (by unfold maxLen; omega) (by omega) (HW2.out.alloc _).bel.size ?_; intro s6 c6 w6 h6 hb6 hg6 hob6; have H6 := Lib.hid (And.intro h6 ((HW2.out.alloc _).bel.trans hb6)); clear h6 hb6 hg6 hob6)))
              go_roundw
              case rel =>
                refine ⟨k + 1, s6, c6, by omega, by go_num, rfl, ?_, ?_, H6.out.2⟩
                · have e : (ws.take (k + 1)).map numP = (ws.take k).map numP ++ [(n : Int)] := by rw [List.take_add_one, HX.out]; simp [HE.out]
                  rw [e, ← ints_append]; exact H6.out.1
                · rw [numsB_snoc HX.out, HW.out.ok, HE.out]; simp
              case measure => simp [intOf]; omega
      · have HE := Lib.hid hn
        clear hn
        go_wp2_with fail
        exact bodyPost_ret (v := .tuple #[.slice none 0 0, .bool false]) (by simp [results, Tryd.results42, go_sem]) rfl ⟨HW2.out.bel, .inr ⟨numsB_bad HX.out HE.out, rfl⟩⟩
    · obtain rfl : k = ws.length := by omega
      go_wp2_with fail
      have ho := HW.out.own
      have hk2 := HW.out.ok
      rw [List.take_length] at ho hk2
      exact bodyPost_ret (v := .tuple #[.slice s ws.length cap, .bool true]) (by simp [results, Tryd.results42, go_sem]) rfl ⟨HW.out.bel, .inl ⟨hk2, s, cap, rfl, ho⟩⟩

end Go.Proofs.YtnifgamlmaembaaDoor
