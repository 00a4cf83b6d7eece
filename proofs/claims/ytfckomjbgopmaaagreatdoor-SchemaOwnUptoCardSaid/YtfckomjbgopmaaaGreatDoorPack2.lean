/- Small general lemmas of ours over any program: rows of bytes that a call owns, and what reads them. The step from a law's walk to its row, whatever the arguments' types: below the heap's old size nothing has turned, so the arguments read as they read. And arguments opened: slices of integers. Data as trees, and how they lie in memory: a literal, or a row of elements of so many cells each; a row may bear marks behind its last element. Over any program. -/
import Derived.WalkKit
import Derived.WalkLawsBesides
import Derived.WalkSpells
import Derived.Lib.Hide
import Derived.Lib.UnsafeStr
import Derived.Lib.RuneBytes
import Derived.Lib.Small
import Derived.Deep.Light
import Derived.Test.YtfckomjbgopmaaaGreatDoorWords
import Derived.Test.YtfckomjbgopmaaaGreatDoorRows
import Derived.Carry
import Derived.OpenShut
import Derived.ProofKit
import Derived.SizedLaws
section
namespace Go.Proofs.YtfckomjbgopmaaaGreatDoor.Kit
open Go.RowKit Go.Lib

theorem ret_int {k : IntKind} {a b : Int} (h : a = b) : Ending.returned (.int k a) = .returned (.int k b) := by rw [h]
theorem ret_bool {a b : Bool} (h : a = b) : Ending.returned (.bool a) = .returned (.bool b) := by rw [h]
theorem wrap32_small {n : Int} (h1 : -2147483648 ≤ n) (h2 : n ≤ 2147483647) : wrap32 n = n := by unfold wrap32; omega

/-- A text out of a list of bytes. -/
def str (l : List UInt8) : ByteArray := ⟨l.toArray⟩

/-- The cell j of an owned row of bytes. -/
theorem own_byte {w : World} {B : Nat} {e : TypeId} {v : Value} {l : List UInt8} (h : w.ownsRow B e 1 v l.length (byteCells l)) {g : Nat} (hg : v.ownBlock = some g) (j : Nat) (hj : j < l.length) :
    w.cell? ⟨g, j, none⟩ = some (.int .u8 (l[j].toNat : Int)) := by
  have := h.cells hg j (.int .u8 (l[j].toNat : Int)) (by simp [byteCells, List.getElem?_eq_getElem hj])
  have hadd : (⟨g, 0, none⟩ : Addr).add j = ⟨g, j, none⟩ := by unfold Addr.add; split <;> simp_all
  rwa [hadd] at this

/-- 'string(b)' of an owned row of bytes. -/
theorem run_convert_own {P : Program} (w : World) (src dst e : TypeId) (hs : P.underlying src = some (.slice e)) (he : P.underlying e = some (.int .u8)) (hd : P.underlying dst = some .string)
    {B : Nat} {v : Value} {n : Nat} {l : List UInt8} (hn : n = l.length) (h : w.ownsRow B e 1 v n (byteCells l)) :
    (convert src dst v).run P w = .ok (.string (str l)) w := by
  subst hn
  rcases h.2 with ⟨rfl, h0⟩ | ⟨g, cap, cur, rfl, _⟩
  · have : l = [] := List.eq_nil_of_length_eq_zero h0
    subst this
    rw [run_convert_bytes_string w src dst e _ _ _ hs he hd]
    rfl
  · exact run_convert_bytes_back w src dst e ⟨g, 0, none⟩ cap l hs he hd (fun j hj => by
      have hadd : (⟨g, 0, none⟩ : Addr).add j = ⟨g, j, none⟩ := by unfold Addr.add; split <;> simp_all
      rw [hadd]; exact own_byte h rfl j hj)

/-- A row of bytes that has just been laid. -/
theorem own_new (w : World) (B : Nat) (e : TypeId) (l : List UInt8) (hB : B ≤ w.heap.size) (hl : l.length ≤ maxLen) :
    (w.alloc (.cells (byteCells l).toArray e)).ownsRow B e 1 (.slice (some ⟨w.heap.size, 0, none⟩) l.length l.length) l.length (byteCells l) :=
  ⟨by simp [byteCells_length], .inr ⟨w.heap.size, l.length, (byteCells l).toArray, rfl, hB, heap_alloc_new w _, Nat.le_refl _, hl, by simp [byteCells_length], by rw [Nat.mul_one, ← byteCells_length l]; exact List.take_length⟩⟩

theorem runeCells_bytes (r : Int) : runeCells r = byteCells (encodeRune r) := (byteCells_encodeRune r).symm

end Go.Proofs.YtfckomjbgopmaaaGreatDoor.Kit
end
section
namespace Go.Proofs.YtfckomjbgopmaaaGreatDoor.Law
open Go.RowKit Go.WideShapes Go.ChangeShapes Words

theorem wf64 {n : Int} (h : (Lit.int .i64 n).wf = true) : -9223372036854775808 ≤ n ∧ n ≤ 9223372036854775807 := by
  have h2 := h; simp only [Lit.wf, Bool.and_eq_true, decide_eq_true_eq] at h2; exact h2

section
variable {H : Type} {enc : TypeId × Value → H} {P : Program}

theorem trodAll_stays (hl : laidOutB P = true) {W W' : World} {sp : Nat → Bool} : ∀ {ts : List TypeId} {vs : List Value} {ds : List (DataW H)} {ps : List MemPlace}, (∀ t ∈ ts, P.readableRec t = true ∧ t < P.types.size) →
    DataW.TrodAll enc P W 0 (fun _ => true) true ts vs ds ps → (∀ p ∈ ps, W.sameAt W' p) → (∀ p ∈ ps, sp p.block = true) → DataW.TrodAll enc P W' 0 sp true ts vs ds ps
  | [], _, _, _, _, h, _, _ => by obtain ⟨rfl, rfl, rfl⟩ := trodAll_nil h; rfl
  | t :: ts, _, _, _, hr, h, hs, hp => by
    obtain ⟨v, vs, d, ds, p, q, rfl, rfl, rfl, h0, h1⟩ := trodAll_cons h
    exact ⟨p, q, WideElems.Trod_stays hl (hr t (by simp)).1 (hr t (by simp)).2 h0 (fun x hx => hs x (by simp [hx])) (fun x hx => hp x (by simp [hx])),
      trodAll_stays hl (fun t ht => hr t (by simp [ht])) h1 (fun x hx => hs x (by simp [hx])) (fun x hx => hp x (by simp [hx])), rfl⟩

/-- A law that returned true and turned nothing below. -/
theorem law_post {f : Func} {s : ChangeSpec} {tb : TypeId} {W W' : World} {args : Array Value} {ds : List (DataW H)} {before : List MemPlace} (hl : laidOutB P = true) (hr : ∀ t ∈ f.params.toList, P.readableRec t = true ∧ t < P.types.size)
    (hB : P.underlying tb = some .bool) (hres : f.resultTypes = #[tb]) (hvars : s.vars = []) (hs : s.fn H (ds ++ []) = { results := [.lit (.bool true)], args := ds })
    (hW : DataW.Whole enc P f.params.toList s.vars false W args.toList ds [] before) (hb : Below W.heap.size W W') : s.post enc P f false true false false W args (.bool true) W' := by
  have hW' := hW
  obtain ⟨p, q, hA, hV, rfl, _, _⟩ := hW
  rw [hvars] at hV
  obtain ⟨_, rfl⟩ := trodVars_none hV
  refine post_of_below (pa := p) (pv := []) hW' ?_ ?_ ?_ rfl hb (ok_one hres rfl (okWide_bool_mk hB _))
  · intro b sp hd
    rw [hs, hres]
    exact trodAll_cons_mk (shut_bool hB _) trodAll_mk0
  · intro sp hsp
    rw [hs]
    exact trodAll_stays hl hr hA (fun x hx => hb.same (hW'.lt x (by simp [hx]))) (fun x hx => hsp x (by simp [hx]))
  · intro sp _
    rw [hvars, hs]; rfl

theorem bulk_lits (k : IntKind) : ∀ zs : List Int, Rows.uptoBulkAll (lits k zs : List (DataW H)) = zs.length
  | [] => rfl
  | z :: zs => by
    have := bulk_lits k zs
    show Rows.uptoBulk _ + Rows.uptoBulkAll (lits k zs) = _
    rw [this, List.length_cons, Nat.add_comm]; rfl
end
end Go.Proofs.YtfckomjbgopmaaaGreatDoor.Law
end
section
set_option linter.unusedVariables false
namespace Go.Proofs.YtfckomjbgopmaaaGreatDoor.Tree
open Go.RowKit Go.WideShapes Go.ChangeShapes Words

/-- A cell's tree: a literal, or a row of n elements of s cells each, laid flat. -/
inductive T where
  | lit (v : Value)
  | arr (s n : Nat) (xs : List T)

/-- The cells from an address on. -/
def Cells (w : World) (ad : Addr) (l : List Value) : Prop := ∀ j u, l[j]? = some u → w.cell? (ad.add j) = some u

mutual
/-- The value stands for the tree: in memory w, over blocks of S; behind a row of elements of s cells lie the marks 'sent s'. -/
def T.At (sent : Nat → List (List Value)) (w : World) (S : Nat → Prop) : T → Value → Prop
  | .lit u, v => v = u
  | .arr s n xs, v => ∃ A cap vs, v = .slice A n cap ∧ n + (sent s).length ≤ cap ∧ cap ≤ maxLen ∧ xs.length = n * s ∧
      (0 < n + (sent s).length → ∃ ad, A = some ad ∧ S ad.block ∧ Cells w ad (vs ++ (sent s).flatten)) ∧ T.AtL sent w S xs vs
def T.AtL (sent : Nat → List (List Value)) (w : World) (S : Nat → Prop) : List T → List Value → Prop
  | [], [] => True
  | t :: ts, v :: vs => T.At sent w S t v ∧ T.AtL sent w S ts vs
  | [], _ :: _ => False
  | _ :: _, [] => False
end

/-- No marks. -/
def bare : Nat → List (List Value) := fun _ => []

section
variable {sent : Nat → List (List Value)} {w w' : World} {S S' : Nat → Prop}

mutual
theorem At.keep (hk : ∀ p : Addr, S p.block → w'.cell? p = w.cell? p) (hS : ∀ g, S g → S' g) : ∀ {t : T} {v : Value}, T.At sent w S t v → T.At sent w' S' t v
  | .lit u, v, h => by simpa only [T.At] using h
  | .arr s n xs, v, h => by
    simp only [T.At] at h ⊢
    obtain ⟨A, cap, vs, hv, hc, hm, hl, ha, hx⟩ := h
    refine ⟨A, cap, vs, hv, hc, hm, hl, fun hn => ?_, AtL.keep hk hS hx⟩
    obtain ⟨ad, e, hs, hcs⟩ := ha hn
    exact ⟨ad, e, hS _ hs, fun j u hu => (hk _ (by rw [block_of_add]; exact hs)).trans (hcs j u hu)⟩
theorem AtL.keep (hk : ∀ p : Addr, S p.block → w'.cell? p = w.cell? p) (hS : ∀ g, S g → S' g) : ∀ {ts : List T} {vs : List Value}, T.AtL sent w S ts vs → T.AtL sent w' S' ts vs
  | [], [], _ => by simp only [T.AtL]
  | t :: ts, v :: vs, h => by
    simp only [T.AtL] at h ⊢
    exact ⟨At.keep hk hS h.1, AtL.keep hk hS h.2⟩
  | [], _ :: _, h => by simp only [T.AtL] at h
  | _ :: _, [], h => by simp only [T.AtL] at h
end

theorem AtL.below {B : Nat} {ts : List T} {vs : List Value} (h : T.AtL sent w (fun g => g < B) ts vs) (hb : Below B w w') (hS : ∀ g, g < B → S' g) : T.AtL sent w' S' ts vs := AtL.keep (fun _ hp => hb.cell hp) hS h
theorem At.below {B : Nat} {t : T} {v : Value} (h : T.At sent w (fun g => g < B) t v) (hb : Below B w w') (hS : ∀ g, g < B → S' g) : T.At sent w' S' t v := At.keep (fun _ hp => hb.cell hp) hS h

theorem AtL.length : ∀ {ts : List T} {vs : List Value}, T.AtL sent w S ts vs → vs.length = ts.length
  | [], [], _ => rfl
  | t :: ts, v :: vs, h => by
    simp only [T.AtL] at h
    rw [List.length_cons, List.length_cons, AtL.length h.2]
  | [], _ :: _, h => by simp only [T.AtL] at h
  | _ :: _, [], h => by simp only [T.AtL] at h
theorem AtL.append : ∀ {ts us : List T} {vs ws : List Value}, T.AtL sent w S ts vs → T.AtL sent w S us ws → T.AtL sent w S (ts ++ us) (vs ++ ws)
  | [], us, [], ws, _, h => h
  | t :: ts, us, v :: vs, ws, h, h' => by
    simp only [T.AtL, List.cons_append] at h ⊢
    exact ⟨h.1, AtL.append h.2 h'⟩
  | [], _, _ :: _, _, h, _ => by simp only [T.AtL] at h
  | _ :: _, _, [], _, h, _ => by simp only [T.AtL] at h
theorem AtL.split : ∀ {ts us : List T} {vs : List Value}, T.AtL sent w S (ts ++ us) vs → T.AtL sent w S ts (vs.take ts.length) ∧ T.AtL sent w S us (vs.drop ts.length)
  | [], us, vs, h => by simpa [T.AtL] using h
  | t :: ts, us, v :: vs, h => by
    simp only [T.AtL, List.cons_append] at h
    obtain ⟨h1, h2⟩ := AtL.split h.2
    simp only [List.length_cons, List.take_succ_cons, List.drop_succ_cons, T.AtL]
    exact ⟨⟨h.1, h1⟩, h2⟩
  | t :: ts, us, [], h => by simp only [T.AtL, List.cons_append] at h
theorem AtL.nil_ {vs : List Value} (h : T.AtL sent w S [] vs) : vs = [] := by cases vs <;> simp_all [T.AtL]
theorem AtL.cons_ {t : T} {ts : List T} {vs : List Value} (h : T.AtL sent w S (t :: ts) vs) : ∃ v us, vs = v :: us ∧ T.At sent w S t v ∧ T.AtL sent w S ts us := by
  cases vs with
  | nil => simp only [T.AtL] at h
  | cons v us => simp only [T.AtL] at h; exact ⟨v, us, rfl, h⟩
/-- A row of literals is read as it stands. -/
theorem AtL.lits {α : Type} {f : α → Value} : ∀ {l : List α} {vs : List Value}, T.AtL sent w S (l.map fun z => .lit (f z)) vs → vs = l.map f
  | [], vs, h => AtL.nil_ h
  | z :: l, vs, h => by
    obtain ⟨v, us, rfl, hv, hus⟩ := AtL.cons_ h
    simp only [T.At] at hv
    rw [hv, AtL.lits hus]; rfl
theorem AtL.of_lits {α : Type} {f : α → Value} : ∀ {l : List α}, T.AtL sent w S (l.map fun z => .lit (f z)) (l.map f)
  | [] => by simp only [List.map_nil, T.AtL]
  | z :: l => by simp only [List.map_cons, T.AtL, T.At, true_and]; exact AtL.of_lits

mutual
/-- What bears marks is read without them. -/
theorem At.bare : ∀ {t : T} {v : Value}, T.At sent w S t v → T.At bare w S t v
  | .lit u, v, h => by simpa only [T.At] using h
  | .arr s n xs, v, h => by
    simp only [T.At] at h ⊢
    obtain ⟨A, cap, vs, hv, hc, hm, hl, ha, hx⟩ := h
    refine ⟨A, cap, vs, hv, by simp only [Tree.bare, List.length_nil]; omega, hm, hl, fun hn => ?_, AtL.bare hx⟩
    obtain ⟨ad, e, hs, hcs⟩ := ha (by simp only [Tree.bare, List.length_nil] at hn; omega)
    refine ⟨ad, e, hs, fun j u hu => hcs j u ?_⟩
    simp only [Tree.bare, List.flatten_nil, List.append_nil] at hu
    rw [List.getElem?_append_left (List.getElem?_eq_some_iff.1 hu).1]; exact hu
theorem AtL.bare : ∀ {ts : List T} {vs : List Value}, T.AtL sent w S ts vs → T.AtL bare w S ts vs
  | [], [], _ => by simp only [T.AtL]
  | t :: ts, v :: vs, h => by
    simp only [T.AtL] at h ⊢
    exact ⟨At.bare h.1, AtL.bare h.2⟩
  | [], _ :: _, h => by simp only [T.AtL] at h
  | _ :: _, [], h => by simp only [T.AtL] at h
end

/-- A row of structs: element i has the cells from i * k on. -/
theorem flatMap_len {X : Type} (f : X → List T) {k : Nat} (hf : ∀ x, (f x).length = k) : ∀ xs : List X, (xs.flatMap f).length = xs.length * k
  | [] => by simp
  | x :: xs => by rw [List.flatMap_cons, List.length_append, hf, flatMap_len f hf xs, List.length_cons, Nat.succ_mul]; omega
theorem AtL.elem {X : Type} {f : X → List T} {k : Nat} (hf : ∀ x, (f x).length = k) : ∀ {xs : List X} {vs : List Value}, T.AtL sent w S (xs.flatMap f) vs → ∀ (i : Nat) (h : i < xs.length),
    ∃ us, us.length = k ∧ T.AtL sent w S (f xs[i]) us ∧ ∀ j, j < k → vs[i * k + j]? = us[j]?
  | [], vs, _, i, h => absurd h (by simp)
  | x :: xs, vs, ht, 0, h => by
    rw [List.flatMap_cons] at ht
    obtain ⟨h1, h2⟩ := AtL.split ht
    refine ⟨_, by rw [AtL.length h1, hf], h1, fun j hj => ?_⟩
    rw [Nat.zero_mul, Nat.zero_add, List.getElem?_take_of_lt (by rw [hf]; exact hj)]
  | x :: xs, vs, ht, i + 1, h => by
    rw [List.flatMap_cons] at ht
    obtain ⟨h1, h2⟩ := AtL.split ht
    obtain ⟨us, hl, hu, hj⟩ := AtL.elem hf h2 i (by simpa using h)
    refine ⟨us, hl, hu, fun j hjk => ?_⟩
    rw [← hj j hjk, List.getElem?_drop, hf]
    congr 1
    rw [Nat.succ_mul]; omega
theorem Cells.left {ad : Addr} {l m : List Value} (h : Cells w ad (l ++ m)) : Cells w ad l := fun j u hu => h j u (by rw [List.getElem?_append_left (List.getElem?_eq_some_iff.1 hu).1]; exact hu)
theorem Cells.right {ad : Addr} {l m : List Value} (h : Cells w ad (l ++ m)) : Cells w (ad.add l.length) m := fun j u hu => by
  rw [add_of_add]
  refine h _ u ?_
  rw [List.getElem?_append_right (by omega), Nat.add_sub_cancel_left]; exact hu
theorem Cells.elem {ad : Addr} {vs us : List Value} {i k : Nat} (h : Cells w ad vs) (hj : ∀ j, j < k → vs[i * k + j]? = us[j]?) (hl : us.length = k) : Cells w (ad.add (i * k)) us := fun j u hu => by
  rw [add_of_add]
  exact h _ u ((hj j (by have := (List.getElem?_eq_some_iff.1 hu).1; omega)).trans hu)
theorem Cells.keep {ad : Addr} {l : List Value} (h : Cells w ad l) (hk : ∀ p : Addr, p.block = ad.block → w'.cell? p = w.cell? p) : Cells w' ad l := fun j u hu => (hk _ (by rw [block_of_add])).trans (h j u hu)
theorem Cells.zero {ad : Addr} {u : Value} {l : List Value} (h : Cells w ad (u :: l)) : w.cell? ad = some u := by have := h 0 u rfl; simpa [Addr.add] using this
theorem Cells.at_ {ad : Addr} {l : List Value} (h : Cells w ad l) (j : Nat) (u : Value) (hj : l[j]? = some u) (h0 : 0 < j) : w.cell? ⟨ad.block, ad.off + j, none⟩ = some u := by
  have := h j u hj
  unfold Addr.add at this
  rwa [if_neg (by omega)] at this

/-- The row of a tree, in the words of rows that are read. -/
theorem At.reads {B s n : Nat} {xs : List T} {v : Value} (h : T.At sent w (fun g => g < B) (.arr s n xs) v) :
    ∃ A cap vs, v = .slice A n cap ∧ n ≤ cap ∧ cap ≤ maxLen ∧ Reads w B s A n vs ∧ T.AtL sent w (fun g => g < B) xs vs := by
  simp only [T.At] at h
  obtain ⟨A, cap, vs, hv, hc, hm, hl, ha, hx⟩ := h
  refine ⟨A, cap, vs, hv, by omega, hm, ⟨by rw [AtL.length hx, hl], fun hn => ?_⟩, hx⟩
  obtain ⟨ad, e, hs, hcs⟩ := ha (by omega)
  exact ⟨ad, e, hs, hcs.left⟩
end

/-! ### Rows of flat structs -/
section
variable {X α : Type} {f : X → List α} {k : Nat}
theorem flat_len (hf : ∀ x, (f x).length = k) : ∀ xs : List X, (xs.flatMap f).length = xs.length * k
  | [] => by simp
  | x :: xs => by rw [List.flatMap_cons, List.length_append, hf, flat_len hf xs, List.length_cons, Nat.succ_mul]; omega
theorem flat_get (hf : ∀ x, (f x).length = k) : ∀ (xs : List X) (i : Nat) (h : i < xs.length) (j : Nat), j < k → (xs.flatMap f)[i * k + j]? = (f xs[i])[j]?
  | [], _, h, _, _ => absurd h (by simp)
  | x :: xs, 0, h, j, hj => by
    rw [List.flatMap_cons, Nat.zero_mul, Nat.zero_add, List.getElem?_append_left (by rw [hf]; exact hj)]; rfl
  | x :: xs, i + 1, h, j, hj => by
    rw [List.flatMap_cons, List.getElem?_append_right (by rw [hf, Nat.succ_mul]; omega), hf, show (i + 1) * k + j - k = i * k + j by rw [Nat.succ_mul]; omega]
    exact flat_get hf xs i (by simpa using h) j hj
/-- Element i of a row of flat structs. -/
theorem reads_elem {f : X → List Value} (hf : ∀ x, (f x).length = k) {w : World} {B n : Nat} {A : Option Addr} {xs : List X} (h : Reads w B k A n (xs.flatMap f)) (hn : n = xs.length) {i : Nat} (hi : i < xs.length) :
    ∃ ad, A = some ad ∧ ad.block < B ∧ Cells w (ad.add (i * k)) (f xs[i]) := by
  obtain ⟨ad, ha, hb, hc⟩ := h.2 (by omega)
  refine ⟨ad, ha, hb, fun j u hu => ?_⟩
  have hj : j < k := by have := (List.getElem?_eq_some_iff.1 hu).1; rw [hf] at this; exact this
  rw [add_of_add]
  exact hc _ u ((flat_get hf xs i hi j hj).trans hu)
end
end Go.Proofs.YtfckomjbgopmaaaGreatDoor.Tree
end
