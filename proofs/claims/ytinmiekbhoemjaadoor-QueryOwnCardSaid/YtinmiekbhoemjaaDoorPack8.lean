/- How a query is read, in plain Lean: on what is left of the text; a fault tells how much was left, and its number. A query that lies in memory of its own: its rows, and the blocks in which they lie. -/
import Derived.Test.YtinmiekbhoemjaaDoorPack7
import Derived.Test.YtinmiekbhoemjaaDoorPack6
import Derived.Test.YtinmiekbhoemjaaDoorPack4
section
namespace QryP
open SchP

abbrev R := List UInt8
abbrev E (α : Type) := Except (Nat × Int) α
def blankB (c : UInt8) : Bool := decide (c = 9 ∨ c = 10 ∨ c = 13 ∨ c = 32)
def digB (c : UInt8) : Bool := decide (48 ≤ c.toNat ∧ c.toNat ≤ 57)
def letB (c : UInt8) : Bool := decide (97 ≤ c.toNat ∧ c.toNat ≤ 122) || digB c || decide (c = 95)
def skipS (r : R) : R := r.dropWhile blankB
def wantS (c : UInt8) (r : R) : E R := match skipS r with
  | [] => .error (0, 180)
  | x :: t => if x = c then .ok t else .error (t.length + 1, 180)
def bytes (l : R) : ByteArray := ⟨l.toArray⟩
def nameS (r : R) : E (ByteArray × R) := if nameB (bytes ((skipS r).takeWhile letB)) then .ok (bytes ((skipS r).takeWhile letB), (skipS r).dropWhile letB) else .error ((skipS r).length, 180)
section
variable (num : Int → R) (par : R → Option Int)
def signS (f : R) : R := if f.head? = some 45 then [45] else []
def restS (f : R) : R := if f.head? = some 45 then f.drop 1 else f
def numS (r : R) : E (Int × R) := match par (signS (skipS r) ++ (restS (skipS r)).takeWhile digB) with
  | none => .error ((skipS r).length, 180)
  | some n => if num n = signS (skipS r) ++ (restS (skipS r)).takeWhile digB then .ok (n, (restS (skipS r)).dropWhile digB) else .error ((skipS r).length, 180)
def sevS : Nat → R → E (List Int × R)
  | 0, _ => .error (0, 0)
  | m + 1, r => match numS num par r with
    | .error e => .error e
    | .ok (n, r1) => match skipS r1 with
      | [] => .ok ([n], [])
      | c :: t => if ¬ (c = 45 ∨ digB c = true) then .ok ([n], c :: t) else if (c :: t).length = r1.length then .error (r1.length, 180) else match sevS m (c :: t) with
        | .error e => .error e
        | .ok (l, r2) => .ok (n :: l, r2)
end
def nibS (c : UInt8) : Option Nat := if digB c then some (c.toNat - 48) else if 65 ≤ c.toNat ∧ c.toNat ≤ 70 then some (c.toNat - 55) else none
def pushS (c : UInt8) : E (R × R) → E (R × R)
  | .error e => .error e
  | .ok (b, r) => .ok (c :: b, r)
def strS (at_ : Nat) : R → E (R × R)
  | [] => .error (at_, 180)
  | c :: t =>
    if c = 34 then .ok ([], t)
    else if c = 10 then .error (at_, 180)
    else if c ≠ 92 then pushS c (strS at_ t)
    else match t with
      | [] => .error (at_, 180)
      | d :: t' => if d = 34 ∨ d = 92 then pushS d (strS at_ t')
        else match t' with
          | a :: b :: t'' => match nibS a, nibS b with
            | some x, some y => if d = 120 then pushS (UInt8.ofNat (16 * x + y)) (strS at_ t'') else .error (at_, 180)
            | _, _ => .error (at_, 180)
          | _ => .error (at_, 180)
def textS (r : R) : E (ByteArray × R) := match wantS 34 r with
  | .error e => .error e
  | .ok t => match strS (skipS r).length t with
    | .error e => .error e
    | .ok (b, r') => .ok (bytes b, r')
def findK (f : Int → R) (w : R) : Nat → Option Int
  | 0 => none
  | k + 1 => match findK f w k with
    | some i => some i
    | none => if f (k + 1 : Nat) = w then some ((k + 1 : Nat) : Int) else none
def kindS (d : Nat) (r : R) : E (Int × R) := match findK wordF ((skipS r).takeWhile letB) 10 with
  | none => .error ((skipS r).length, 180)
  | some k => if d = 0 then .error ((skipS r).length, 182) else .ok (k, (skipS r).dropWhile letB)
def opS (r : R) : E (Int × R) := match findK opF ((skipS r).takeWhile letB) 3 with
  | none => .error ((skipS r).length, 180)
  | some k => .ok (k, (skipS r).dropWhile letB)
def markI (c : UInt8) : Int := if c = 43 then 1 else if c = 63 then 2 else if c = 45 then 3 else if c = 61 then 4 else 0
def setOc (o : Int) : QT → QT | .mk k _ f t u l h b p ks => .mk k o f t u l h b p ks
/-- The kids of a bool, one behind the other. -/
def clauseS (qs : R → E (QT × R)) : Nat → R → E (List QT × R)
  | 0, _ => .error (0, 0)
  | m + 1, r => match skipS r with
    | [] => .error (0, 180)
    | c :: t => if markI c = 0 then .error (t.length + 1, 180) else match qs t with
      | .error e => .error e
      | .ok (k, r1) => match skipS r1 with
        | 44 :: r3 => (match clauseS qs m r3 with
          | .error e => .error e
          | .ok (ks, r4) => .ok (setOc (markI c) k :: ks, r4))
        | r2 => .ok ([setOc (markI c) k], r2)
def emp : ByteArray := ⟨#[]⟩
section
variable (num : Int → R) (par : R → Option Int)
def bodyS (qs : R → E (QT × R)) (k : Int) (r : R) : E (QT × R) :=
  if k = 8 then (match skipS r with
    | 41 :: t => .ok (.mk 8 0 emp emp emp [] [] 0 0 [], t)
    | _ => do
      let (ks, r1) ← clauseS qs (r.length + 1) r
      let r2 ← wantS 41 r1
      pure (.mk 8 0 emp emp emp [] [] 0 0 ks, r2))
  else if k = 9 then do
    let (b, r1) ← numS num par r
    if b < 0 ∨ 1048576 < b then .error ((skipS r).length, 180)
    let r2 ← wantS 44 r1
    let (q, r3) ← qs r2
    let r4 ← wantS 41 r3
    pure (.mk 9 0 emp emp emp [] [] b 0 [q], r4)
  else if k = 10 then do
    let (o, r1) ← opS r
    let r2 ← wantS 44 r1
    let (f, r3) ← nameS r2
    let r4 ← wantS 44 r3
    let (n, r5) ← numS num par r4
    let r6 ← wantS 44 r5
    let (q, r7) ← qs r6
    let r8 ← wantS 41 r7
    pure (.mk 10 0 f emp emp [n] [] 0 o [q], r8)
  else if k = 7 then do
    let (f, r1) ← nameS r
    let r2 ← wantS 44 r1
    let (lo, r3) ← sevS num par (r2.length + 1) r2
    let r4 ← wantS 44 r3
    let (hi, r5) ← sevS num par (r4.length + 1) r4
    if lo.length ≠ hi.length ∨ 4 < lo.length then .error ((skipS r5).length, 180)
    let r6 ← wantS 41 r5
    pure (.mk 7 0 f emp emp lo hi 0 0 [], r6)
  else do
    let (f, r1) ← nameS r
    let r2 ← wantS 44 r1
    let (t, r3) ← textS r2
    if k = 6 then
      let r4 ← wantS 44 r3
      let (u, r5) ← textS r4
      let r6 ← wantS 41 r5
      pure (.mk 6 0 f t u [] [] 0 0 [], r6)
    else
      let r4 ← wantS 41 r3
      pure (.mk k 0 f t emp [] [] 0 0 [], r4)
def queryS : Nat → R → E (QT × R)
  | 0, r => match kindS 0 r with
    | .error e => .error e
    | .ok _ => .error (0, 0)
  | d + 1, r => match kindS (d + 1) r with
    | .error e => .error e
    | .ok (k, r1) => if k = 1 ∨ k = 2 then .ok (.mk k 0 emp emp emp [] [] 0 0 [], r1) else match wantS 40 r1 with
      | .error e => .error e
      | .ok r2 => bodyS num par (queryS d) k r2
def parseS (r : R) : E QT := if 4096 < r.length then .error (r.length, 3) else match queryS num par 6 r with
  | .error e => .error e
  | .ok (q, r1) => match skipS r1 with
    | [] => .ok q
    | _ :: t => .error (t.length + 1, 180)
end
end QryP
end
section
set_option linter.unusedVariables false
namespace Go.Proofs.YtinmiekbhoemjaaDoor.Qry
open Go.RowKit Go.WideShapes Go.ChangeShapes Words Tree QryP Owned

/-- A row of int64 of the call's own. -/
def RowI (w : World) (B : Nat) (v : Value) (l : List Int) : Prop := w.ownsRow B 2 1 v l.length (l.map (Value.int .i64))
mutual
/-- The query's parts are rows in the blocks bs, from block B on. -/
def OQ (w : World) (B : Nat) : QT → List Value → List Nat → Prop
  | .mk k o f t u lo hi b op ks, us, bs => ∃ (vl vh vk : Value) (xs : List Value) (bk : List Nat), us = [.int .i64 k, .int .i64 o, .string f, .string t, .string u, vl, vh, .int .i64 b, .int .i64 op, vk] ∧ RowI w B vl lo ∧ RowI w B vh hi ∧
      w.ownsRow B 25 10 vk ks.length xs ∧ OQL w B ks xs bk ∧ bs = vl.ownBlock.toList ++ (vh.ownBlock.toList ++ (vk.ownBlock.toList ++ bk))
def OQL (w : World) (B : Nat) : List QT → List Value → List Nat → Prop
  | [], xs, bs => xs = [] ∧ bs = []
  | q :: qs, xs, bs => ∃ (us xs' : List Value) (b1 b2 : List Nat), xs = us ++ xs' ∧ bs = b1 ++ b2 ∧ OQ w B q us b1 ∧ OQL w B qs xs' b2
end
section
variable {w w' : World} {B B' : Nat}
theorem own_keep' {n m : Nat} {e : TypeId} {v : Value} {xs : List Value} (h : w.ownsRow B e m v n xs) (hk : ∀ g, v.ownBlock = some g → w'.heap[g]? = w.heap[g]?) : w'.ownsRow B e m v n xs :=
  ⟨h.1, h.2.elim .inl fun ⟨g, cap, cur, hv, h1, h2, h3⟩ => .inr ⟨g, cap, cur, hv, h1, (hk g (by rw [hv]; rfl)).trans h2, h3⟩⟩
theorem own_le' {k m : Nat} {e : TypeId} {v : Value} {ys : List Value} (h : w.ownsRow B e m v k ys) (hB : B' ≤ B) : w.ownsRow B' e m v k ys :=
  ⟨h.1, h.2.elim .inl fun ⟨g, cap, cur, hv, g1, g2, g3⟩ => .inr ⟨g, cap, cur, hv, Nat.le_trans hB g1, g2, g3⟩⟩
theorem mem_ob {v : Value} {g : Nat} : g ∈ v.ownBlock.toList ↔ v.ownBlock = some g := by cases v.ownBlock <;> simp [eq_comm]
mutual
theorem OQ.keep : ∀ {q : QT} {us : List Value} {bs : List Nat}, OQ w B q us bs → (∀ g ∈ bs, w'.heap[g]? = w.heap[g]?) → OQ w' B q us bs
  | .mk k o f t u lo hi b op ks, us, bs, h, hk => by
    rw [OQ] at h ⊢
    obtain ⟨vl, vh, vk, xs, bk, rfl, h1, h2, h3, h4, rfl⟩ := h
    exact ⟨vl, vh, vk, xs, bk, rfl, own_keep' h1 fun g hg => hk g (by simp [hg]), own_keep' h2 fun g hg => hk g (by simp [hg]), own_keep' h3 fun g hg => hk g (by simp [hg]), OQL.keep h4 fun g hg => hk g (by simp [hg]), rfl⟩
theorem OQL.keep : ∀ {qs : List QT} {xs : List Value} {bs : List Nat}, OQL w B qs xs bs → (∀ g ∈ bs, w'.heap[g]? = w.heap[g]?) → OQL w' B qs xs bs
  | [], xs, bs, h, hk => by rw [OQL] at h ⊢; exact h
  | q :: qs, xs, bs, h, hk => by
    rw [OQL] at h ⊢
    obtain ⟨us, xs', b1, b2, rfl, rfl, h1, h2⟩ := h
    exact ⟨us, xs', b1, b2, rfl, rfl, OQ.keep h1 fun g hg => hk g (by simp [hg]), OQL.keep h2 fun g hg => hk g (by simp [hg])⟩
end
mutual
theorem OQ.le (hB : B' ≤ B) : ∀ {q : QT} {us : List Value} {bs : List Nat}, OQ w B q us bs → OQ w B' q us bs
  | .mk k o f t u lo hi b op ks, us, bs, h => by
    rw [OQ] at h ⊢
    obtain ⟨vl, vh, vk, xs, bk, rfl, h1, h2, h3, h4, rfl⟩ := h
    exact ⟨vl, vh, vk, xs, bk, rfl, own_le' h1 hB, own_le' h2 hB, own_le' h3 hB, OQL.le hB h4, rfl⟩
theorem OQL.le (hB : B' ≤ B) : ∀ {qs : List QT} {xs : List Value} {bs : List Nat}, OQL w B qs xs bs → OQL w B' qs xs bs
  | [], xs, bs, h => by rw [OQL] at h ⊢; exact h
  | q :: qs, xs, bs, h => by
    rw [OQL] at h ⊢
    obtain ⟨us, xs', b1, b2, rfl, rfl, h1, h2⟩ := h
    exact ⟨us, xs', b1, b2, rfl, rfl, OQ.le hB h1, OQL.le hB h2⟩
end
mutual
theorem OQ.mem : ∀ {q : QT} {us : List Value} {bs : List Nat}, OQ w B q us bs → ∀ g ∈ bs, B ≤ g ∧ g < w.heap.size
  | .mk k o f t u lo hi b op ks, us, bs, h, g, hg => by
    rw [OQ] at h
    obtain ⟨vl, vh, vk, xs, bk, rfl, h1, h2, h3, h4, rfl⟩ := h
    simp only [List.mem_append, mem_ob] at hg
    rcases hg with hg | hg | hg | hg
    · exact World.ownsRow.lt h1 g hg
    · exact World.ownsRow.lt h2 g hg
    · exact World.ownsRow.lt h3 g hg
    · exact OQL.mem h4 g hg
theorem OQL.mem : ∀ {qs : List QT} {xs : List Value} {bs : List Nat}, OQL w B qs xs bs → ∀ g ∈ bs, B ≤ g ∧ g < w.heap.size
  | [], xs, bs, h, g, hg => by rw [OQL] at h; rw [h.2] at hg; cases hg
  | q :: qs, xs, bs, h, g, hg => by
    rw [OQL] at h
    obtain ⟨us, xs', b1, b2, rfl, rfl, h1, h2⟩ := h
    rcases List.mem_append.1 hg with hg | hg
    · exact OQ.mem h1 g hg
    · exact OQL.mem h2 g hg
end
theorem OQ.len : ∀ {q : QT} {us : List Value} {bs : List Nat}, OQ w B q us bs → us.length = 10
  | .mk k o f t u lo hi b op ks, us, bs, h => by rw [OQ] at h; obtain ⟨vl, vh, vk, xs, bk, rfl, _⟩ := h; rfl
theorem OQL.len : ∀ {qs : List QT} {xs : List Value} {bs : List Nat}, OQL w B qs xs bs → xs.length = qs.length * 10
  | [], xs, bs, h => by rw [OQL] at h; rw [h.1]; rfl
  | q :: qs, xs, bs, h => by
    rw [OQL] at h
    obtain ⟨us, xs', b1, b2, rfl, rfl, h1, h2⟩ := h
    rw [List.length_append, OQ.len h1, OQL.len h2, List.length_cons]; omega
theorem OQL.snoc : ∀ {qs : List QT} {xs : List Value} {bs : List Nat} {q : QT} {us : List Value} {b1 : List Nat}, OQL w B qs xs bs → OQ w B q us b1 → OQL w B (qs ++ [q]) (xs ++ us) (bs ++ b1)
  | [], xs, bs, q, us, b1, h, h1 => by
    rw [OQL] at h
    obtain ⟨rfl, rfl⟩ := h
    rw [List.nil_append, OQL]
    exact ⟨us, [], b1, [], by simp, by simp, h1, by rw [OQL]; exact ⟨rfl, rfl⟩⟩
  | q' :: qs, xs, bs, q, us, b1, h, h1 => by
    rw [OQL] at h
    obtain ⟨us', xs', b1', b2', rfl, rfl, h2, h3⟩ := h
    rw [List.cons_append, OQL]
    exact ⟨us', xs' ++ us, b1', b2' ++ b1, by simp, by simp, h2, OQL.snoc h3 h1⟩
theorem OQL.nil_ : OQL w B [] [] [] := by rw [OQL]; exact ⟨rfl, rfl⟩
theorem OQL.split : ∀ {qs : List QT} {xs : List Value} {bs : List Nat} {q : QT}, OQL w B (qs ++ [q]) xs bs → ∃ (ys us : List Value) (b1 b2 : List Nat), xs = ys ++ us ∧ bs = b1 ++ b2 ∧ OQL w B qs ys b1 ∧ OQ w B q us b2
  | [], xs, bs, q, h => by
    rw [List.nil_append, OQL] at h
    obtain ⟨us, xs', b1, b2, rfl, rfl, h1, h2⟩ := h
    rw [OQL] at h2
    obtain ⟨rfl, rfl⟩ := h2
    exact ⟨[], us, [], b1, by simp, by simp, OQL.nil_, h1⟩
  | q' :: qs, xs, bs, q, h => by
    rw [List.cons_append, OQL] at h
    obtain ⟨us', xs', b1, b2, rfl, rfl, h1, h2⟩ := h
    obtain ⟨ys, us, c1, c2, rfl, rfl, h3, h4⟩ := OQL.split h2
    exact ⟨us' ++ ys, us, b1 ++ c1, c2, by simp, by simp, by rw [OQL]; exact ⟨us', ys, b1, c1, rfl, rfl, h1, h3⟩, h4⟩
theorem own_arr {S : Nat → Prop} {e : TypeId} {m n : Nat} {v : Value} {cs : List Value} {ts : List T} (h : w.ownsRow B e m v n cs) (hl : ts.length = n * m) (hS : ∀ g, v.ownBlock = some g → S g) (ha : T.AtL bare w S ts cs) : T.At bare w S (.arr m n ts) v := by
  simp only [T.At]
  rcases h.2 with ⟨rfl, h0⟩ | ⟨g, cap, cur, rfl, hB, hgg, hn, hm, hcs, ht⟩
  · exact ⟨none, 0, cs, by rw [h0], by simp [bare, h0], by unfold maxLen; omega, hl, fun hlt => by simp [bare, h0] at hlt, ha⟩
  · refine ⟨_, cap, cs, rfl, by simpa [bare] using hn, hm, hl, fun _ => ⟨_, rfl, hS g rfl, ?_⟩, ha⟩
    have := h.cells (g := g) rfl
    simpa [bare, Cells] using this
mutual
/-- It is a query in memory. -/
theorem OQ.at_ : ∀ {q : QT} {us : List Value} {bs : List Nat}, OQ w B q us bs → T.AtL bare w (fun g => g ∈ bs) (cells q) us
  | .mk k o f t u lo hi b op ks, us, bs, h => by
    rw [OQ] at h
    obtain ⟨vl, vh, vk, xs, bk, rfl, h1, h2, h3, h4, rfl⟩ := h
    refine cells_mk (own_arr h1 (by simp) (fun g hg => by simp [hg]) AtL.of_lits) (own_arr h2 (by simp) (fun g hg => by simp [hg]) AtL.of_lits) (own_arr h3 (cellsL_len ks) (fun g hg => by simp [hg]) ?_)
    exact AtL.keep (fun _ _ => rfl) (fun g hg => by simp [hg]) (OQL.at_ h4)
theorem OQL.at_ : ∀ {qs : List QT} {xs : List Value} {bs : List Nat}, OQL w B qs xs bs → T.AtL bare w (fun g => g ∈ bs) (cellsL qs) xs
  | [], xs, bs, h => by rw [OQL] at h; rw [h.1, cellsL]; simp only [T.AtL]
  | q :: qs, xs, bs, h => by
    rw [OQL] at h
    obtain ⟨us, xs', b1, b2, rfl, rfl, h1, h2⟩ := h
    rw [cellsL]
    exact AtL.append (AtL.keep (fun _ _ => rfl) (fun g hg => by simp [hg]) (OQ.at_ h1)) (AtL.keep (fun _ _ => rfl) (fun g hg => by simp [hg]) (OQL.at_ h2))
end
/-- Its occurrence is written. -/
theorem OQ.occ : ∀ {q : QT} {us : List Value} {bs : List Nat} (o : Int), OQ w B q us bs → OQ w B (setOc o q) (us.set 1 (.int .i64 o)) bs
  | .mk k o' f t u lo hi b op ks, us, bs, o, h => by
    rw [OQ] at h
    obtain ⟨vl, vh, vk, xs, bk, rfl, h1, h2, h3, h4, rfl⟩ := h
    rw [setOc, OQ]
    exact ⟨vl, vh, vk, xs, bk, rfl, h1, h2, h3, h4, rfl⟩
theorem OQ.below {C : Nat} {q : QT} {us : List Value} {bs : List Nat} (h : OQ w B q us bs) (hb : Below C w w') (hC : w.heap.size ≤ C) : OQ w' B q us bs := h.keep fun g hg => hb.block g (by have := (h.mem g hg).2; omega)
theorem OQL.below {C : Nat} {q : List QT} {us : List Value} {bs : List Nat} (h : OQL w B q us bs) (hb : Below C w w') (hC : w.heap.size ≤ C) : OQL w' B q us bs := h.keep fun g hg => hb.block g (by have := (h.mem g hg).2; omega)
theorem OQ.grown {row : Option Nat} {q : QT} {us : List Value} {bs : List Nat} (h : OQ w B q us bs) (hg : w.grownBy w' row) (hr : ∀ g ∈ bs, row ≠ some g) : OQ w' B q us bs := h.keep fun g hgm => hg.block g (h.mem g hgm).2 fun e => hr g hgm e.symm
theorem OQL.grown {row : Option Nat} {q : List QT} {us : List Value} {bs : List Nat} (h : OQL w B q us bs) (hg : w.grownBy w' row) (hr : ∀ g ∈ bs, row ≠ some g) : OQL w' B q us bs := h.keep fun g hgm => hg.block g (h.mem g hgm).2 fun e => hr g hgm e.symm
end
end Go.Proofs.YtinmiekbhoemjaaDoor.Qry
end
