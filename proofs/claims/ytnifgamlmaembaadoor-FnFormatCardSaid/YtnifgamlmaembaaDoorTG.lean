import Derived.Test.YtnifgamlmaembaaDoorTF
namespace Go.Proofs.YtnifgamlmaembaaDoor
set_option linter.unusedVariables false
set_option linter.unusedSimpArgs false
open Go.RowKit

/-! Numbers of one or two digits. -/

def isDig (b : UInt8) : Prop := 48 ≤ b.toNat ∧ b.toNat ≤ 57
instance (b : UInt8) : Decidable (isDig b) := inferInstanceAs (Decidable (_ ∧ _))
/-- The number that a word spells; -1 if it is none below 100 without a leading zero. -/
def numP : Tx → Int
  | [a] => if isDig a then ((a.toNat - 48 : Nat) : Int) else -1
  | [a, b] => if isDig a ∧ isDig b ∧ 49 ≤ a.toNat then (((a.toNat - 48) * 10 + (b.toNat - 48) : Nat) : Int) else -1
  | _ => -1
theorem numP1 (a : UInt8) : numP [a] = if isDig a then ((a.toNat - 48 : Nat) : Int) else -1 := rfl
theorem numP2 (a b : UInt8) : numP [a, b] = if isDig a ∧ isDig b ∧ 49 ≤ a.toNat then (((a.toNat - 48) * 10 + (b.toNat - 48) : Nat) : Int) else -1 := rfl
def valT (l : Tx) : Nat := l.foldl (fun n b => n * 10 + (b.toNat - 48)) 0
theorem ofNat_toNat (b : UInt8) : UInt8.ofNat b.toNat = b := UInt8.toNat_inj.1 (by simp)
theorem toNat_dig {n : Nat} (h : n < 10) : (UInt8.ofNat (48 + n)).toNat = 48 + n := by
  rw [UInt8.toNat_ofNat']; omega
theorem dec1 {n : Nat} (h : n < 10) : Lib.decDigits n = [UInt8.ofNat (48 + n)] := by rw [Lib.decDigits, dif_pos h]
theorem dec2 {n : Nat} (h : ¬ n < 10) (h2 : n < 100) : Lib.decDigits n = [UInt8.ofNat (48 + n / 10), UInt8.ofNat (48 + n % 10)] := by rw [Lib.decDigits, dif_neg h, dec1 (by omega)]; rfl
theorem numP_dec {n : Nat} (h : n < 100) : numP (Lib.decDigits n) = n := by
  by_cases h1 : n < 10
  · rw [dec1 h1]
    show (if isDig _ then _ else _) = _
    rw [if_pos (by unfold isDig; rw [toNat_dig h1]; omega), toNat_dig h1]; omega
  · rw [dec2 h1 h]
    show (if _ ∧ _ ∧ _ then _ else _) = _
    have t1 := toNat_dig (n := n / 10) (by omega)
    have t2 := toNat_dig (n := n % 10) (by omega)
    rw [if_pos (by unfold isDig; rw [t1, t2]; omega), t1, t2]; omega
theorem numP_inv {w : Tx} (h : 0 ≤ numP w) : ∃ n : Nat, numP w = n ∧ n < 100 ∧ w = Lib.decDigits n := by
  match w with
  | [] => simp [numP] at h
  | [a] =>
    rw [numP1] at h ⊢
    by_cases hd : isDig a
    · rw [if_pos hd]
      have hd' : 48 ≤ a.toNat ∧ a.toNat ≤ 57 := hd
      refine ⟨_, rfl, by omega, ?_⟩
      rw [dec1 (by omega), show 48 + (a.toNat - 48) = a.toNat by omega, ofNat_toNat]
    · rw [if_neg hd] at h; omega
  | [a, b] =>
    rw [numP2] at h ⊢
    by_cases hd : isDig a ∧ isDig b ∧ 49 ≤ a.toNat
    · rw [if_pos hd]
      have hd' : (48 ≤ a.toNat ∧ a.toNat ≤ 57) ∧ (48 ≤ b.toNat ∧ b.toNat ≤ 57) ∧ 49 ≤ a.toNat := hd
      refine ⟨_, rfl, by omega, ?_⟩
      rw [dec2 (by omega) (by omega), show 48 + ((a.toNat - 48) * 10 + (b.toNat - 48)) / 10 = a.toNat by omega, show 48 + ((a.toNat - 48) * 10 + (b.toNat - 48)) % 10 = b.toNat by omega, ofNat_toNat, ofNat_toNat]
    · rw [if_neg hd] at h; omega
  | _ :: _ :: _ :: _ => simp [numP] at h
theorem numP_none {w : Tx} (h : ∀ n < 100, w ≠ Lib.decDigits n) : numP w = -1 := by
  by_cases h0 : 0 ≤ numP w
  · obtain ⟨n, -, h1, h2⟩ := numP_inv h0; exact absurd h2 (h n h1)
  · match w with
    | [] => rfl
    | [a] =>
      rw [numP1] at h0 ⊢
      by_cases hd : isDig a
      · rw [if_pos hd] at h0; omega
      · rw [if_neg hd]
    | [a, b] =>
      rw [numP2] at h0 ⊢
      by_cases hd : isDig a ∧ isDig b ∧ 49 ≤ a.toNat
      · rw [if_pos hd] at h0; omega
      · rw [if_neg hd]
    | _ :: _ :: _ :: _ => rfl
theorem dec_dig {n : Nat} (h : n < 100) : ∀ b ∈ Lib.decDigits n, isDig b := by
  by_cases h1 : n < 10
  · rw [dec1 h1]; intro b hb
    obtain rfl := List.mem_singleton.1 hb
    unfold isDig; rw [toNat_dig h1]; omega
  · rw [dec2 h1 h]; intro b hb
    have t1 := toNat_dig (n := n / 10) (by omega)
    have t2 := toNat_dig (n := n % 10) (by omega)
    simp only [List.mem_cons, List.mem_nil_iff, or_false] at hb
    unfold isDig
    rcases hb with rfl | rfl
    · rw [t1]; omega
    · rw [t2]; omega
theorem numP_val {w : Tx} (h0 : w ≠ []) (h2 : w.length ≤ 2) (hd : ∀ b ∈ w, isDig b) : numP w = if Lib.decDigits (valT w) = w then (valT w : Int) else -1 := by
  match w with
  | [] => exact absurd rfl h0
  | [a] =>
    have ha := hd a (by simp)
    unfold isDig at ha
    have e : Lib.decDigits (valT [a]) = [a] := by
      show Lib.decDigits (0 * 10 + (a.toNat - 48)) = _
      rw [dec1 (by omega), show 48 + (0 * 10 + (a.toNat - 48)) = a.toNat by omega, ofNat_toNat]
    rw [if_pos e, numP1, if_pos (show isDig a from ha)]; simp [valT]
  | [a, b] =>
    have ha := hd a (by simp)
    have hb := hd b (by simp)
    unfold isDig at ha hb
    have ev : valT [a, b] = (a.toNat - 48) * 10 + (b.toNat - 48) := by simp [valT]
    rw [numP2]
    by_cases h9 : 49 ≤ a.toNat
    · rw [if_pos (show isDig a ∧ isDig b ∧ 49 ≤ a.toNat from ⟨ha, hb, h9⟩), ev, if_pos]
      rw [dec2 (by omega) (by omega), show 48 + ((a.toNat - 48) * 10 + (b.toNat - 48)) / 10 = a.toNat by omega, show 48 + ((a.toNat - 48) * 10 + (b.toNat - 48)) % 10 = b.toNat by omega, ofNat_toNat, ofNat_toNat]
    · rw [if_neg (fun h => h9 h.2.2), ev, if_neg]
      rw [dec1 (by omega)]
      intro h
      have := congrArg List.length h
      simp at this
  | _ :: _ :: _ :: _ => simp at h2

theorem valT_snoc {l : Tx} {k : Nat} {b : UInt8} (h : l[k]? = some b) : valT (l.take (k + 1)) = valT (l.take k) * 10 + (b.toNat - 48) := by
  unfold valT
  rw [List.take_add_one, h]; simp
theorem valT_bd {l : Tx} (hd : ∀ b ∈ l, isDig b) (h2 : l.length ≤ 2) : valT l < 100 := by
  match l with
  | [] => simp [valT]
  | [a] => have := hd a (by simp); unfold isDig at this; simp [valT]; omega
  | [a, b] => have := hd a (by simp); have := hd b (by simp); unfold isDig at *; simp [valT]; omega
  | _ :: _ :: _ :: _ => simp at h2

theorem numP_bad {l : Tx} {k : Nat} {b : UInt8} (h : l[k]? = some b) (hb : ¬ isDig b) : numP l = -1 :=
  numP_none fun n hn e => hb (dec_dig hn b (by rw [← e]; exact List.mem_of_getElem? h))

set_option maxRecDepth 100000 in
set_option maxHeartbeats 1600000 in
theorem l13Num_any (l : Tx) (hl : l.length ≤ 1048576) (w : World) :
    Calls Tryd.prog 61 #[sv l] w fun e w' => e = .returned (.int .i64 (numP l)) ∧ Below w.heap.size w w' := by
  unfold sv
  obtain ⟨X, hX⟩ : ∃ X : ByteArray, X = ⟨l.toArray⟩ := ⟨_, rfl⟩
  have hXs : X.size = l.length := by rw [hX, size_mk]
  rw [← hX]
  have HX := Lib.hid hX
  clear hX
  by_cases hlen : 1 ≤ l.length ∧ l.length ≤ 2
  · obtain ⟨hl1, hl2⟩ := hlen
    have hz : ((l.length : Int) == 0) = false := beq_eq_false_iff_ne.2 (by omega)
    go_enter Tryd.func61, Tryd.ntmps61
    go_wp2_with fail
    go_loopw [4, 3] (fun v4 v3 wr => ∃ k n : Nat, k ≤ l.length ∧ v4 = .int .i64 k ∧ v3 = .int .i64 n ∧ n = valT (l.take k) ∧ (∀ b ∈ l.take k, isDig b) ∧ n < 100 ∧ w = wr) (fun v4 _ _ => l.length - (intOf v4).toNat)
    case atStart => exact ⟨0, 0, Nat.zero_le _, rfl, rfl, rfl, by simp, by omega, rfl⟩
    case round =>
      obtain ⟨k, n, hk, rfl, rfl, hn, hd, hn1, rfl⟩ := hrel
      have HN := Lib.hid (And.intro hn hd)
      clear hn hd
      by_cases hlt : k < l.length
      · obtain ⟨b, hb⟩ := get_of_lt hlt
        have hXk : ∀ h : k < X.size, X[k]'h = b := fun h => by
          have e := HX.out
          subst e
          have := (List.getElem?_eq_some_iff.1 hb).2
          simpa [ByteArray.getElem_eq_getElem_data] using this
        have HB := Lib.hid hb
        clear hb
        obtain ⟨q, hq⟩ : ∃ q : Nat, q = b.toNat := ⟨_, rfl⟩
        have hq256 : q < 256 := by rw [hq]; exact b.toNat_lt
        have hXq : ∀ h : k < X.size, (X[k]'h).toNat = q := fun h => by rw [hXk h, hq]
        have HQ := Lib.hid hq
        clear hXk hq
        by_cases hq1 : q < 48
        · have e : numP l = -1 := numP_bad HB.out (fun h => by have := HQ.out; unfold isDig at h; omega)
          have HE := Lib.hid e
          clear e
          go_wp2_with fail
          go_ret
          exact ⟨ret_int HE.out.symm, Below.refl _ _⟩
        · by_cases hq2 : 57 < q
          · have e : numP l = -1 := numP_bad HB.out (fun h => by have := HQ.out; unfold isDig at h; omega)
            have HE := Lib.hid e
            clear e
            go_wp2_with fail
            go_ret
            exact ⟨ret_int HE.out.symm, Below.refl _ _⟩
          · go_wp2_with fail
            go_roundw
            case rel =>
              have hv := valT_snoc HB.out
              have hqq := HQ.out
              have hdd : ∀ c ∈ l.take (k + 1), isDig c := fun c hc => by
                rw [List.take_add_one, HB.out] at hc
                rcases List.mem_append.1 hc with hc | hc
                · exact HN.out.2 c hc
                · simp at hc; subst hc; unfold isDig; omega
              have hb := valT_bd hdd (by simp; omega)
              exact ⟨k + 1, n * 10 + (q - 48), by omega, by go_num, by go_num, by rw [hv, ← HN.out.1, hqq], hdd, by rw [hv, ← HN.out.1, ← hqq] at hb; exact hb, trivial⟩
            case measure => simp [intOf]; omega
      · obtain rfl : k = l.length := by omega
        have hn := HN.out.1
        rw [List.take_length] at hn
        have hp := numP_val (w := l) (by intro e; rw [e] at hl1; simp at hl1) hl2 (by have h := HN.out.2; rw [List.take_length] at h; exact h)
        rw [← hn] at hp
        have HP := Lib.hid hp
        clear hn hp
        have hXl : X.toList = l := by rw [HX.out, ByteArray.toList_mk]
        cases hq : (Lib.decDigits n == l)
        · have e : numP l = -1 := by rw [HP.out, if_neg]; intro e; rw [e] at hq; simp at hq
          have HE := Lib.hid e
          clear e
          go_wp2_with (go_at_call 29; (refine (l13P n hn1 _).mono ?_); rintro e w2 ⟨rfl, hb⟩; have HBB := Lib.hid hb; clear hb; unfold sv)
          go_ret
          exact ⟨ret_int HE.out.symm, HBB.out⟩
        · have e : numP l = n := by rw [HP.out, if_pos (eq_of_beq hq)]
          have HE := Lib.hid e
          clear e
          go_wp2_with (go_at_call 29; (refine (l13P n hn1 _).mono ?_); rintro e w2 ⟨rfl, hb⟩; have HBB := Lib.hid hb; clear hb; unfold sv)
          go_ret
          exact ⟨ret_int HE.out.symm, HBB.out⟩
  · have e : numP l = -1 := by
      match l with
      | [] => rfl
      | [a] => simp at hlen
      | [a, b] => simp at hlen
      | _ :: _ :: _ :: _ => rfl
    have HE := Lib.hid e
    clear e
    by_cases h0 : l.length = 0
    · have hz : ((l.length : Int) == 0) = true := by simp [h0]
      clear h0 hlen
      go_enter Tryd.func61, Tryd.ntmps61
      go_wp2_with fail
      go_ret
      exact ⟨ret_int HE.out.symm, Below.refl _ _⟩
    · have hz : ((l.length : Int) == 0) = false := beq_eq_false_iff_ne.2 (by omega)
      have h3 : 2 < l.length := by omega
      clear h0 hlen
      go_enter Tryd.func61, Tryd.ntmps61
      go_wp2_with fail
      go_ret
      exact ⟨ret_int HE.out.symm, Below.refl _ _⟩

end Go.Proofs.YtnifgamlmaembaaDoor
