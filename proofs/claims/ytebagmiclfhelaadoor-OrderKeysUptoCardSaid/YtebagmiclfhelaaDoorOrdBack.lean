/- Bytes of rows of keys go as the rows do, and are read as the row: plain Lean. -/
import Derived.Test.YtebagmiclfhelaaDoorOrdKeysP
import Derived.Test.YtebagmiclfhelaaDoorOrdOrd
set_option linter.unusedVariables false
namespace Go.Proofs.YtebagmiclfhelaaDoor.OrdLib
open Go.RowKit Go.Lib OrdP Kit OrdRef Words Owned

theorem escL_zero (l : List UInt8) : escL (0 :: l) = 0 :: 255 :: escL l := by rw [escL, if_pos rfl]
theorem escL_c {c : UInt8} (h : c ≠ 0) (l : List UInt8) : escL (c :: l) = c :: escL l := by rw [escL, if_neg h]
theorem unesc_esc : ∀ (t r : List UInt8), unesc (escL t ++ r) = some (t, r)
  | [], r => unesc_end r
  | c :: t, r => by
    by_cases h : c = 0
    · subst h
      rw [escL_zero, List.cons_append, List.cons_append, unesc_255, unesc_esc t r]; rfl
    · rw [escL_c h, List.cons_append, unesc_c h, unesc_esc t r]; rfl
theorem be8_len (u : Int) : (be8 u).length = 8 := by simp [be8]
theorem be8_take' (m j : Nat) (hj : j < 8) : (be8 m).take (j + 1) = (be8 m).take j ++ [UInt8.ofNat (m / 2 ^ (56 - 8 * j))] := be8_take m j hj
theorem valB_take (m : Nat) (hm : m < 18446744073709551616) : ∀ j, j ≤ 8 → valB ((be8 m).take j) = m / 2 ^ (64 - 8 * j)
  | 0, _ => by
    show 0 = m / 2 ^ 64
    rw [Nat.div_eq_of_lt (by omega)]
  | j + 1, hj => by
    rw [be8_take m j (by omega), valB_snoc, valB_take m hm j (by omega), show 64 - 8 * (j + 1) = 56 - 8 * j by omega]
    have e : 2 ^ (64 - 8 * j) = 2 ^ (56 - 8 * j) * 256 := by rw [show 64 - 8 * j = (56 - 8 * j) + 8 by omega, Nat.pow_add]
    rw [e, ← Nat.div_div_eq_div_mul]
    generalize m / 2 ^ (56 - 8 * j) = q
    rw [UInt8.toNat_ofNat']
    omega
theorem valB_be8 (m : Nat) (hm : m < 18446744073709551616) : valB (be8 m) = m := by
  have := valB_take m hm 8 (by omega)
  rw [List.take_of_length_le (by rw [be8_len]; omega)] at this
  rw [this]; simp

/-- Is a key's number one of 64 bits? -/
def inR (k : KeyD) : Prop := -9223372036854775808 ≤ k.num ∧ k.num ≤ 9223372036854775807
theorem right_cases {k : KeyD} (h : rightF k = true) : (∃ tx : ByteArray, k = ⟨0, 0, tx⟩ ∧ tx = ⟨#[]⟩) ∨ (∃ n : Int, k = ⟨1, n, ⟨#[]⟩⟩) ∨ (∃ tx : ByteArray, k = ⟨2, 0, tx⟩) := by
  have hz : ∀ tx : ByteArray, tx.size = 0 → tx = ⟨#[]⟩ := fun tx h => by apply ByteArray.ext; exact Array.eq_empty_of_size_eq_zero h
  obtain ⟨kd, nm, tx⟩ := k
  unfold rightF at h
  simp only [Bool.or_eq_true, Bool.and_eq_true, decide_eq_true_eq] at h
  rcases h with (⟨⟨rfl, rfl⟩, h3⟩ | ⟨rfl, h2⟩) | ⟨rfl, rfl⟩
  · exact .inl ⟨tx, rfl, hz tx h3⟩
  · exact .inr (.inl ⟨nm, by rw [hz tx h2]⟩)
  · exact .inr (.inr ⟨tx, rfl⟩)
theorem num_u (n : Int) (h : -9223372036854775808 ≤ n ∧ n ≤ 9223372036854775807) : ∃ m : Nat, m < 18446744073709551616 ∧ (n + 9223372036854775808) % 18446744073709551616 = (m : Int) ∧ (m : Int) - 9223372036854775808 = n :=
  ⟨(n + 9223372036854775808).toNat, by omega, by omega, by omega⟩
theorem keyB_0 : keyB ⟨0, 0, ⟨#[]⟩⟩ = [0] := rfl
theorem keyB_1 (n : Int) : keyB ⟨1, n, ⟨#[]⟩⟩ = 1 :: be8 ((n + 9223372036854775808) % 18446744073709551616) := by
  unfold keyB; rw [if_pos rfl]; rfl
theorem keyB_2 (tx : ByteArray) : keyB ⟨2, 0, tx⟩ = 2 :: escL tx.data.toList := by
  unfold keyB; dsimp only; rw [if_neg (by decide), if_pos rfl]; rfl
theorem str_data (tx : ByteArray) : str tx.data.toList = tx := by cases tx; simp [str]
theorem keyOne_keyB (k : KeyD) (r : List UInt8) (h : rightF k = true) (hr : inR k) : keyOne (keyB k ++ r) = some (k, r) := by
  rcases right_cases h with ⟨_, rfl, rfl⟩ | ⟨n, rfl⟩ | ⟨tx, rfl⟩
  · rw [keyB_0, List.cons_append, List.nil_append, keyOne_0]
  · obtain ⟨m, hm, h1, h2⟩ := num_u n hr
    rw [keyB_1, h1, List.cons_append, keyOne_1 (by rw [List.length_append, be8_len]; omega), List.take_left' (be8_len _), List.drop_left' (be8_len _), valB_be8 m hm, h2]
  · rw [keyB_2, List.cons_append, keyOne_2, unesc_esc]
    show some ((⟨2, 0, str tx.data.toList⟩ : KeyD), r) = _
    rw [str_data]
theorem keysF_append : ∀ (ks : List KeyD) (r : List UInt8), ks.all rightF = true → (∀ k ∈ ks, inR k) → keysF (rowB ks ++ r) = (keysF r).map (fun x => ks ++ x)
  | [], r, _, _ => by show keysF r = _; simp
  | k :: ks, r, h, hr => by
    simp only [List.all_cons, Bool.and_eq_true] at h
    have e : rowB (k :: ks) ++ r = keyB k ++ (rowB ks ++ r) := by rw [rowB, List.append_assoc]
    rw [e, keysF_some (keyOne_keyB k _ h.1 (hr k (by simp))), keysF_append ks r h.2 (fun x hx => hr x (by simp [hx])), Option.map_map]
    congr 1
/-- What was written is read again. -/
theorem keysF_rowB (ks : List KeyD) (h : ks.all rightF = true) (hr : ∀ k ∈ ks, inR k) : keysF (rowB ks) = some ks := by
  have := keysF_append ks [] h hr
  rw [List.append_nil, keysF_nil] at this
  rw [this]; simp

/-! ### The order -/
def valA (acc : Nat) (l : List UInt8) : Nat := l.foldl (fun a c => a * 256 + c.toNat) acc
theorem valA_lt : ∀ (a b : List UInt8) (x y : Nat), a.length = b.length → x < y → valA x a < valA y b
  | [], [], x, y, _, h => h
  | [], _ :: _, _, _, h, _ => by simp at h
  | _ :: _, [], _, _, h, _ => by simp at h
  | c :: a, d :: b, x, y, hl, h => by
    show valA (x * 256 + c.toNat) a < valA (y * 256 + d.toNat) b
    have := c.toNat_lt
    exact valA_lt a b _ _ (by simpa using hl) (by omega)
theorem cmp_val : ∀ (a b r s : List UInt8) (acc : Nat), a.length = b.length → cmpB (a ++ r) (b ++ s) = if valA acc a < valA acc b then -1 else if valA acc b < valA acc a then 1 else cmpB r s
  | [], [], r, s, acc, _ => by
    show cmpB r s = if acc < acc then -1 else if acc < acc then 1 else cmpB r s
    rw [if_neg (Nat.lt_irrefl _), if_neg (Nat.lt_irrefl _)]
  | [], _ :: _, _, _, _, h => by simp at h
  | _ :: _, [], _, _, _, h => by simp at h
  | c :: a, d :: b, r, s, acc, hl => by
    have hl2 : a.length = b.length := by simpa using hl
    rw [List.cons_append, List.cons_append]
    show _ = if valA (acc * 256 + c.toNat) a < valA (acc * 256 + d.toNat) b then -1 else if valA (acc * 256 + d.toNat) b < valA (acc * 256 + c.toNat) a then 1 else cmpB r s
    rcases u8_tri c d with h | rfl | h
    · have h2 := UInt8.lt_iff_toNat_lt.1 h
      rw [cmpB_cons_lt _ _ h, if_pos (valA_lt a b _ _ hl2 (by omega))]
    · rw [cmpB_cons_eq]; exact cmp_val a b r s _ hl2
    · have h2 := UInt8.lt_iff_toNat_lt.1 h
      have h3 := valA_lt b a (acc * 256 + d.toNat) (acc * 256 + c.toNat) hl2.symm (by omega)
      rw [cmpB_cons_gt _ _ h, if_neg (by omega), if_pos h3]
theorem cmp_be8 (u v : Nat) (r s : List UInt8) (hu : u < 18446744073709551616) (hv : v < 18446744073709551616) : cmpB (be8 u ++ r) (be8 v ++ s) = if u < v then -1 else if v < u then 1 else cmpB r s := by
  rw [cmp_val _ _ r s 0 (by rw [be8_len, be8_len])]
  have e : ∀ l, valA 0 l = valB l := fun _ => rfl
  rw [e, e, valB_be8 u hu, valB_be8 v hv]
theorem cmp_esc : ∀ (x y r s : List UInt8), cmpB (escL x ++ r) (escL y ++ s) = if cmpB x y ≠ 0 then cmpB x y else cmpB r s
  | [], [], r, s => by
    show cmpB (0 :: 1 :: r) (0 :: 1 :: s) = _
    rw [cmpB_cons_eq, cmpB_cons_eq]; rfl
  | [], d :: y, r, s => by
    have e : cmpB [] (d :: y) = -1 := rfl
    rw [e, if_pos (by decide)]
    show cmpB (0 :: 1 :: r) _ = _
    by_cases h : d = 0
    · subst h; rw [escL_zero, List.cons_append, List.cons_append, cmpB_cons_eq, cmpB_cons_lt _ _ (by decide)]
    · rw [escL_c h, List.cons_append]
      exact cmpB_cons_lt _ _ (by rw [UInt8.lt_iff_toNat_lt]; have : d.toNat ≠ 0 := fun e => h (UInt8.toNat_inj.1 e); show 0 < _; omega)
  | c :: x, [], r, s => by
    have e : cmpB (c :: x) [] = 1 := rfl
    rw [e, if_pos (by decide)]
    show cmpB _ (0 :: 1 :: s) = _
    by_cases h : c = 0
    · subst h; rw [escL_zero, List.cons_append, List.cons_append, cmpB_cons_eq, cmpB_cons_gt _ _ (by decide)]
    · rw [escL_c h, List.cons_append]
      exact cmpB_cons_gt _ _ (by rw [UInt8.lt_iff_toNat_lt]; have : c.toNat ≠ 0 := fun e => h (UInt8.toNat_inj.1 e); show 0 < _; omega)
  | c :: x, d :: y, r, s => by
    have z : ∀ q : UInt8, q ≠ 0 → (0 : UInt8) < q := fun q h => by rw [UInt8.lt_iff_toNat_lt]; have : q.toNat ≠ 0 := fun e => h (UInt8.toNat_inj.1 e); show 0 < _; omega
    by_cases h : c = 0
    · subst h
      by_cases h2 : d = 0
      · subst h2
        rw [escL_zero, escL_zero, List.cons_append, List.cons_append, List.cons_append, List.cons_append, cmpB_cons_eq, cmpB_cons_eq, cmpB_cons_eq]
        exact cmp_esc x y r s
      · rw [escL_zero, escL_c h2, List.cons_append, List.cons_append, List.cons_append, cmpB_cons_lt _ _ (z d h2), cmpB_cons_lt _ _ (z d h2), if_pos (by decide)]
    · by_cases h2 : d = 0
      · subst h2
        rw [escL_zero, escL_c h, List.cons_append, List.cons_append, List.cons_append, cmpB_cons_gt _ _ (z c h), cmpB_cons_gt _ _ (z c h), if_pos (by decide)]
      · rw [escL_c h, escL_c h2, List.cons_append, List.cons_append]
        rcases u8_tri c d with h3 | rfl | h3
        · rw [cmpB_cons_lt _ _ h3, cmpB_cons_lt _ _ h3, if_pos (by decide)]
        · rw [cmpB_cons_eq, cmpB_cons_eq]; exact cmp_esc x y r s
        · rw [cmpB_cons_gt _ _ h3, cmpB_cons_gt _ _ h3, if_pos (by decide)]
theorem keyB_head {k : KeyD} (h : rightF k = true) : ∃ t, keyB k = UInt8.ofNat k.kind.toNat :: t := ⟨_, rfl⟩
theorem cmp_key (x y : KeyD) (r s : List UInt8) (hx : rightF x = true) (hy : rightF y = true) (rx : inR x) (ry : inR y) : cmpB (keyB x ++ r) (keyB y ++ s) = if cmpF x y ≠ 0 then cmpF x y else cmpB r s := by
  rcases right_cases hx with ⟨_, rfl, rfl⟩ | ⟨n, rfl⟩ | ⟨tx, rfl⟩
  · rcases right_cases hy with ⟨_, rfl, rfl⟩ | ⟨m, rfl⟩ | ⟨ty, rfl⟩
    · rw [keyB_0, List.cons_append, List.cons_append, cmpB_cons_eq, cmpF_self]; rfl
    · rw [keyB_0, keyB_1, List.cons_append, List.cons_append, cmpB_cons_lt _ _ (by decide), cmpF_kind_lt (by dsimp only; decide)]; rfl
    · rw [keyB_0, keyB_2, List.cons_append, List.cons_append, cmpB_cons_lt _ _ (by decide), cmpF_kind_lt (by dsimp only; decide)]; rfl
  · rcases right_cases hy with ⟨_, rfl, rfl⟩ | ⟨m, rfl⟩ | ⟨ty, rfl⟩
    · rw [keyB_0, keyB_1, List.cons_append, List.cons_append, cmpB_cons_gt _ _ (by decide), cmpF_kind_gt (by dsimp only; decide)]; rfl
    · obtain ⟨u, hu, h1, h2⟩ := num_u n rx
      obtain ⟨v, hv, h3, h4⟩ := num_u m ry
      rw [keyB_1, keyB_1, h1, h3, List.cons_append, List.cons_append, cmpB_cons_eq, cmp_be8 u v r s hu hv]
      rcases int_tri n m with h | h | h
      · rw [cmpF_num_lt (a := ⟨1, n, ⟨#[]⟩⟩) (b := ⟨1, m, ⟨#[]⟩⟩) rfl h, if_pos (by omega), if_pos (by decide)]
      · subst h
        rw [cmpF_self, if_neg (by omega), if_neg (by omega)]; rfl
      · rw [cmpF_num_gt (a := ⟨1, n, ⟨#[]⟩⟩) (b := ⟨1, m, ⟨#[]⟩⟩) rfl h, if_neg (by omega), if_pos (by omega), if_pos (by decide)]
    · rw [keyB_1, keyB_2, List.cons_append, List.cons_append, cmpB_cons_lt _ _ (by decide), cmpF_kind_lt (by dsimp only; decide)]; rfl
  · rcases right_cases hy with ⟨_, rfl, rfl⟩ | ⟨m, rfl⟩ | ⟨ty, rfl⟩
    · rw [keyB_0, keyB_2, List.cons_append, List.cons_append, cmpB_cons_gt _ _ (by decide), cmpF_kind_gt (by dsimp only; decide)]; rfl
    · rw [keyB_1, keyB_2, List.cons_append, List.cons_append, cmpB_cons_gt _ _ (by decide), cmpF_kind_gt (by dsimp only; decide)]; rfl
    · rw [keyB_2, keyB_2, List.cons_append, List.cons_append, cmpB_cons_eq, cmp_esc, cmpF_text (a := ⟨2, 0, tx⟩) (b := ⟨2, 0, ty⟩) rfl rfl]
/-- How rows go. -/
def rowsF : List KeyD → List KeyD → Int
  | [], [] => 0
  | [], _ :: _ => -1
  | _ :: _, [] => 1
  | x :: a, y :: b => if cmpF x y ≠ 0 then cmpF x y else rowsF a b
theorem keyB_ne (k : KeyD) (r : List UInt8) : ∃ c t, keyB k ++ r = c :: t := ⟨_, _, rfl⟩
theorem cmp_rows : ∀ a b : List KeyD, a.all rightF = true → b.all rightF = true → (∀ k ∈ a, inR k) → (∀ k ∈ b, inR k) → cmpB (rowB a) (rowB b) = rowsF a b
  | [], [], _, _, _, _ => rfl
  | [], y :: b, _, _, _, _ => by obtain ⟨c, t, e⟩ := keyB_ne y (rowB b); rw [rowB, rowB, e]; rfl
  | x :: a, [], _, _, _, _ => by obtain ⟨c, t, e⟩ := keyB_ne x (rowB a); rw [rowB, rowB, e]; rfl
  | x :: a, y :: b, ha, hb, ra, rb => by
    simp only [List.all_cons, Bool.and_eq_true] at ha hb
    rw [rowB, rowB, cmp_key x y _ _ ha.1 hb.1 (ra x (by simp)) (rb y (by simp)), cmp_rows a b ha.2 hb.2 (fun k h => ra k (by simp [h])) (fun k h => rb k (by simp [h]))]
    rfl
/-- None of as many keys begins another one's. -/
theorem begins_rows (a b : List KeyD) (ha : a.all rightF = true) (hb : b.all rightF = true) (ra : ∀ k ∈ a, inR k) (rb : ∀ k ∈ b, inR k) (hl : a.length = b.length) : (rowB b).take (rowB a).length = rowB a ↔ a = b := by
  constructor
  · intro h
    have e : rowB b = rowB a ++ (rowB b).drop (rowB a).length := by
      have := (List.take_append_drop (rowB a).length (rowB b)).symm
      rw [h] at this
      exact this
    have k1 := keysF_rowB b hb rb
    rw [e, keysF_append a _ ha ra, Option.map_eq_some_iff] at k1
    obtain ⟨t, _, ht⟩ := k1
    have : t = [] := List.eq_nil_of_length_eq_zero (by have := congrArg List.length ht; rw [List.length_append] at this; omega)
    rw [this, List.append_nil] at ht
    exact ht
  · rintro rfl; exact List.take_of_length_le (Nat.le_refl _)
end Go.Proofs.YtebagmiclfhelaaDoor.OrdLib
