/- Plain: the runes of a string and the bytes they make. -/
import Derived.Test.YtdobnkbmjkcpoaaDoorATXT
import Derived.Laws.IdiomStrings
import Derived.Laws.Cover4
import Derived.Lib.RuneBytes
import Derived.Lib.MapLaws
import Derived.Lib.ValidLaws
import Derived.Lib.TrimUEq
set_option linter.unusedVariables false
set_option linter.unusedSimpArgs false
namespace Go.Proofs.YtdobnkbmjkcpoaaDoor
open Go.RowKit Go.Sort
open Go Go.Lib
theorem runesFrom_eq (s : ByteArray) : ∀ (f pos : Nat) (acc : Array Value), Conv.runesFrom s f pos acc = acc ++ ((rns s f pos).map (Value.int .i32)).toArray
  | 0, pos, acc => by simp [Conv.runesFrom, rns]
  | f + 1, pos, acc => by
    rw [Conv.runesFrom, rns]
    by_cases h : pos < s.size
    · simp [h, runesFrom_eq s f]
    · simp [h]
theorem encode_toList (r : Int) : (Utf8.encode r).data.toList = encodeRune r := by
  have key : ∀ n : Nat, (r = n ∨ n = 65533) → ∀ z : Int, (z = (n : Int)) → (Utf8.valid r = true → r = n) → (Utf8.valid r = false → n = 65533) → (Utf8.encode r).data.toList = encodeRune r := by
    intro n _ z _ hv1 hv2
    unfold Utf8.encode encodeRune encodeRuneZ
    have hc : (if Utf8.valid r = true then r.toNat else Utf8.runeError) = n := by
      cases hv : Utf8.valid r with
      | true => have := hv1 hv; simp; omega
      | false => simp [Utf8.runeError, hv2 hv]
    simp only [hc]
    cases hv : Utf8.valid r with
    | true =>
      have hr := hv1 hv
      simp only [Utf8.valid, Bool.and_eq_true, Bool.or_eq_true, decide_eq_true_eq] at hv
      have q64 : (r / 64) = ((n / 64 : Nat) : Int) := by omega
      have q4096 : (r / 4096) = ((n / 4096 : Nat) : Int) := by omega
      have q262144 : (r / 262144) = ((n / 262144 : Nat) : Int) := by omega
      by_cases h1 : n < 128
      · rw [if_pos h1, if_pos (show (0 ≤ r ∧ r ≤ 127) by omega)]; simp [hr]
      · rw [if_neg h1, if_neg (show ¬(0 ≤ r ∧ r ≤ 127) by omega)]
        by_cases h2 : n < 2048
        · rw [if_pos h2, if_pos (show (128 ≤ r ∧ r ≤ 2047) by omega)]
          simp only [List.map_cons, List.map_nil]
          rw [show (192 + r / 64).toNat = 192 + n / 64 by omega, show (128 + r % 64).toNat = 128 + n % 64 by omega]
        · rw [if_neg h2, if_neg (show ¬(128 ≤ r ∧ r ≤ 2047) by omega)]
          by_cases h3 : n < 65536
          · rw [if_pos h3, if_pos (show (2048 ≤ r ∧ r < 55296 ∨ 57343 < r ∧ r ≤ 65535) by omega)]
            simp only [List.map_cons, List.map_nil]
            rw [show (224 + r / 4096).toNat = 224 + n / 4096 by omega, show (128 + r / 64 % 64).toNat = 128 + n / 64 % 64 by omega, show (128 + r % 64).toNat = 128 + n % 64 by omega]
          · rw [if_neg h3, if_neg (show ¬(2048 ≤ r ∧ r < 55296 ∨ 57343 < r ∧ r ≤ 65535) by omega), if_pos (show (65536 ≤ r ∧ r ≤ 1114111) by omega)]
            simp only [List.map_cons, List.map_nil]
            rw [show (240 + r / 262144).toNat = 240 + n / 262144 by omega, show (128 + r / 4096 % 64).toNat = 128 + n / 4096 % 64 by omega, show (128 + r / 64 % 64).toNat = 128 + n / 64 % 64 by omega, show (128 + r % 64).toNat = 128 + n % 64 by omega]
    | false =>
      have hn := hv2 hv
      subst hn
      simp only [Utf8.valid, Bool.and_eq_false_iff, Bool.or_eq_false_iff, decide_eq_false_iff_not] at hv
      rw [if_neg (show ¬(0 ≤ r ∧ r ≤ 127) by omega), if_neg (show ¬(128 ≤ r ∧ r ≤ 2047) by omega), if_neg (show ¬(2048 ≤ r ∧ r < 55296 ∨ 57343 < r ∧ r ≤ 65535) by omega), if_neg (show ¬(65536 ≤ r ∧ r ≤ 1114111) by omega)]
      rfl
  cases hv : Utf8.valid r with
  | true =>
    have h0 : 0 ≤ r := by simp only [Utf8.valid, Bool.and_eq_true, Bool.or_eq_true, decide_eq_true_eq] at hv; omega
    exact key r.toNat (Or.inl (by omega)) _ rfl (fun _ => by omega) (fun h => by rw [h] at hv; exact absurd hv (by decide))
  | false => exact key 65533 (Or.inr rfl) _ rfl (fun h => by rw [h] at hv; exact absurd hv (by decide)) (fun _ => rfl)
theorem foldl_enc (ns : List Int) : ∀ r : ByteArray, (ns.foldl (fun r n => r ++ Utf8.encode n) r).data.toList = r.data.toList ++ ns.flatMap encodeRune := by
  induction ns with
  | nil => intro r; simp
  | cons n ns ih => intro r; rw [List.foldl_cons, ih]; simp [encode_toList]
theorem runesBytes_toList (ns : List Int) : (runesBytes ns).data.toList = ns.flatMap encodeRune := by
  unfold runesBytes; rw [foldl_enc]; simp
theorem encodeRune_pos (r : Int) : 1 ≤ (encodeRune r).length := by
  unfold encodeRune encodeRuneZ; repeat' split
  all_goals simp
theorem enc_rns (s : ByteArray) : ∀ (f pos : Nat), s.size ≤ pos + f → (s.size - pos ≤ ((rns s f pos).flatMap encodeRune).length) ∧ (validD (s.data.toList.drop pos) = true → (rns s f pos).flatMap encodeRune = s.data.toList.drop pos) ∧ (validD (s.data.toList.drop pos) = false → s.size - pos < ((rns s f pos).flatMap encodeRune).length)
  | 0, pos, h => by
    have hd : s.data.toList.drop pos = [] := List.drop_eq_nil_of_le (by simp only [Array.length_toList]; show s.size ≤ pos; omega)
    refine ⟨by omega, fun _ => by rw [hd]; rfl, fun h2 => ?_⟩
    rw [hd] at h2; exact absurd h2 (by decide)
  | f + 1, pos, h => by
    by_cases hp : pos < s.size
    · have hne : s.data.toList.drop pos ≠ [] := by
        intro e; have := congrArg List.length e; simp only [List.length_drop, Array.length_toList, List.length_nil] at this; have h3 : s.data.size = s.size := rfl; omega
      obtain ⟨hw, -⟩ := decode_w s pos
      obtain ⟨i1, i2, i3⟩ := enc_rns s f (pos + (Utf8.decode s pos).2) (by omega)
      have hv := validD_step _ hne
      have he := encode_decode _ hne
      rw [decodeL_drop] at hv he
      rw [List.drop_drop] at hv
      rw [rns, if_pos hp, List.flatMap_cons]
      have hq := encodeRune_pos ((Utf8.decode s pos).1 : Int)
      by_cases hb : (Utf8.decode s pos).1 = 65533 ∧ (Utf8.decode s pos).2 = 1
      · rw [if_pos hb] at hv
        rw [hv]
        have h3 : (encodeRune ((Utf8.decode s pos).1 : Int)).length = 3 := by rw [hb.1]; decide
        have h4 := hb.2
        rw [List.length_append, h3]
        refine ⟨by omega, by intro h; exact absurd h (by decide), fun _ => by omega⟩
      · rw [if_neg hb] at hv
        replace he := he hb
        have hln : (encodeRune ((Utf8.decode s pos).1 : Int)).length = min (Utf8.decode s pos).2 (s.size - pos) := by
          rw [he, List.length_take, List.length_drop]; rfl
        rw [hv, List.length_append, hln]
        refine ⟨by omega, fun h => ?_, fun h => by have := i3 h; omega⟩
        rw [i2 h, he, ← List.drop_drop, List.take_append_drop]
    · have hd : s.data.toList.drop pos = [] := List.drop_eq_nil_of_le (by simp only [Array.length_toList]; show s.size ≤ pos; omega)
      refine ⟨by omega, fun _ => by rw [hd, rns, if_neg hp]; rfl, fun h2 => ?_⟩
      rw [hd] at h2; exact absurd h2 (by decide)
theorem enc_rnL (s : ByteArray) : ((runesBytes (rnL s)).data.toList = s.data.toList ↔ validD s.data.toList = true) := by
  obtain ⟨h1, h2, h3⟩ := enc_rns s s.size 0 (by omega)
  rw [List.drop_zero] at h2 h3
  rw [runesBytes_toList]
  cases hv : validD s.data.toList with
  | true => exact ⟨fun _ => rfl, fun _ => h2 hv⟩
  | false =>
    refine ⟨fun h => ?_, fun h => absurd h (by decide)⟩
    have h4 := h3 hv
    rw [show (rns s s.size 0).flatMap encodeRune = s.data.toList from h] at h4
    rw [Array.length_toList] at h4
    exact absurd h4 (by show ¬ (s.size - 0 < s.size); omega)
theorem rnL_length (s : ByteArray) : ∀ f pos, (rns s f pos).length ≤ f
  | 0, pos => Nat.le_refl _
  | f + 1, pos => by
    rw [rns]; split
    · have := rnL_length s f (pos + (Utf8.decode s pos).2); simp only [List.length_cons]; omega
    · exact Nat.zero_le _
theorem bytes_ext {a b : ByteArray} (h : a.data.toList = b.data.toList) : a = b := by
  cases a; cases b; congr 1; exact Array.toList_inj.mp h
end Go.Proofs.YtdobnkbmjkcpoaaDoor
