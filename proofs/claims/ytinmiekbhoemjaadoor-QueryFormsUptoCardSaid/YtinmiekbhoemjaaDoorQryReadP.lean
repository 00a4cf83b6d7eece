/- How a query is read, in plain Lean: on what is left of the text; a fault tells how much was left, and its number. -/
import Derived.Test.YtinmiekbhoemjaaDoorPack11
namespace QryP
open SchP

abbrev R := List UInt8
abbrev E (α : Type) := Except (Nat × Int) α
def blankB (c : UInt8) : Bool := decide (c = 9 ∨ c = 10 ∨ c = 13 ∨ c = 32)
def digB (c : UInt8) : Bool := decide (48 ≤ c.toNat ∧ c.toNat ≤ 57)
def letB (c : UInt8) : Bool := decide (97 ≤ c.toNat ∧ c.toNat ≤ 122) || digB c || decide (c = 95)
def skipS (r : R) : R := r.dropWhile blankB
def wantS (c : UInt8) (r : R) : E R := match skipS r with
  | [] => .error (0, 180)
  | x :: t => if x = c then .ok t else .error (t.length + 1, 180)
def bytes (l : R) : ByteArray := ⟨l.toArray⟩
def nameS (r : R) : E (ByteArray × R) := if nameB (bytes ((skipS r).takeWhile letB)) then .ok (bytes ((skipS r).takeWhile letB), (skipS r).dropWhile letB) else .error ((skipS r).length, 180)
section
variable (num : Int → R) (par : R → Option Int)
def signS (f : R) : R := if f.head? = some 45 then [45] else []
def restS (f : R) : R := if f.head? = some 45 then f.drop 1 else f
def numS (r : R) : E (Int × R) := match par (signS (skipS r) ++ (restS (skipS r)).takeWhile digB) with
  | none => .error ((skipS r).length, 180)
  | some n => if num n = signS (skipS r) ++ (restS (skipS r)).takeWhile digB then .ok (n, (restS (skipS r)).dropWhile digB) else .error ((skipS r).length, 180)
def sevS : Nat → R → E (List Int × R)
  | 0, _ => .error (0, 0)
  | m + 1, r => match numS num par r with
    | .error e => .error e
    | .ok (n, r1) => match skipS r1 with
      | [] => .ok ([n], [])
      | c :: t => if ¬ (c = 45 ∨ digB c = true) then .ok ([n], c :: t) else if (c :: t).length = r1.length then .error (r1.length, 180) else match sevS m (c :: t) with
        | .error e => .error e
        | .ok (l, r2) => .ok (n :: l, r2)
end
def nibS (c : UInt8) : Option Nat := if digB c then some (c.toNat - 48) else if 65 ≤ c.toNat ∧ c.toNat ≤ 70 then some (c.toNat - 55) else none
def pushS (c : UInt8) : E (R × R) → E (R × R)
  | .error e => .error e
  | .ok (b, r) => .ok (c :: b, r)
def strS (at_ : Nat) : R → E (R × R)
  | [] => .error (at_, 180)
  | c :: t =>
    if c = 34 then .ok ([], t)
    else if c = 10 then .error (at_, 180)
    else if c ≠ 92 then pushS c (strS at_ t)
    else match t with
      | [] => .error (at_, 180)
      | d :: t' => if d = 34 ∨ d = 92 then pushS d (strS at_ t')
        else match t' with
          | a :: b :: t'' => match nibS a, nibS b with
            | some x, some y => if d = 120 then pushS (UInt8.ofNat (16 * x + y)) (strS at_ t'') else .error (at_, 180)
            | _, _ => .error (at_, 180)
          | _ => .error (at_, 180)
def textS (r : R) : E (ByteArray × R) := match wantS 34 r with
  | .error e => .error e
  | .ok t => match strS (skipS r).length t with
    | .error e => .error e
    | .ok (b, r') => .ok (bytes b, r')
def findK (f : Int → R) (w : R) : Nat → Option Int
  | 0 => none
  | k + 1 => match findK f w k with
    | some i => some i
    | none => if f (k + 1 : Nat) = w then some ((k + 1 : Nat) : Int) else none
def kindS (d : Nat) (r : R) : E (Int × R) := match findK wordF ((skipS r).takeWhile letB) 10 with
  | none => .error ((skipS r).length, 180)
  | some k => if d = 0 then .error ((skipS r).length, 182) else .ok (k, (skipS r).dropWhile letB)
def opS (r : R) : E (Int × R) := match findK opF ((skipS r).takeWhile letB) 3 with
  | none => .error ((skipS r).length, 180)
  | some k => .ok (k, (skipS r).dropWhile letB)
def markI (c : UInt8) : Int := if c = 43 then 1 else if c = 63 then 2 else if c = 45 then 3 else if c = 61 then 4 else 0
def setOc (o : Int) : QT → QT | .mk k _ f t u l h b p ks => .mk k o f t u l h b p ks
/-- The kids of a bool, one behind the other. -/
def clauseS (qs : R → E (QT × R)) : Nat → R → E (List QT × R)
  | 0, _ => .error (0, 0)
  | m + 1, r => match skipS r with
    | [] => .error (0, 180)
    | c :: t => if markI c = 0 then .error (t.length + 1, 180) else match qs t with
      | .error e => .error e
      | .ok (k, r1) => match skipS r1 with
        | 44 :: r3 => (match clauseS qs m r3 with
          | .error e => .error e
          | .ok (ks, r4) => .ok (setOc (markI c) k :: ks, r4))
        | r2 => .ok ([setOc (markI c) k], r2)
def emp : ByteArray := ⟨#[]⟩
section
variable (num : Int → R) (par : R → Option Int)
def bodyS (qs : R → E (QT × R)) (k : Int) (r : R) : E (QT × R) :=
  if k = 8 then (match skipS r with
    | 41 :: t => .ok (.mk 8 0 emp emp emp [] [] 0 0 [], t)
    | _ => do
      let (ks, r1) ← clauseS qs (r.length + 1) r
      let r2 ← wantS 41 r1
      pure (.mk 8 0 emp emp emp [] [] 0 0 ks, r2))
  else if k = 9 then do
    let (b, r1) ← numS num par r
    if b < 0 ∨ 1048576 < b then .error ((skipS r).length, 180)
    let r2 ← wantS 44 r1
    let (q, r3) ← qs r2
    let r4 ← wantS 41 r3
    pure (.mk 9 0 emp emp emp [] [] b 0 [q], r4)
  else if k = 10 then do
    let (o, r1) ← opS r
    let r2 ← wantS 44 r1
    let (f, r3) ← nameS r2
    let r4 ← wantS 44 r3
    let (n, r5) ← numS num par r4
    let r6 ← wantS 44 r5
    let (q, r7) ← qs r6
    let r8 ← wantS 41 r7
    pure (.mk 10 0 f emp emp [n] [] 0 o [q], r8)
  else if k = 7 then do
    let (f, r1) ← nameS r
    let r2 ← wantS 44 r1
    let (lo, r3) ← sevS num par (r2.length + 1) r2
    let r4 ← wantS 44 r3
    let (hi, r5) ← sevS num par (r4.length + 1) r4
    if lo.length ≠ hi.length ∨ 4 < lo.length then .error ((skipS r5).length, 180)
    let r6 ← wantS 41 r5
    pure (.mk 7 0 f emp emp lo hi 0 0 [], r6)
  else do
    let (f, r1) ← nameS r
    let r2 ← wantS 44 r1
    let (t, r3) ← textS r2
    if k = 6 then
      let r4 ← wantS 44 r3
      let (u, r5) ← textS r4
      let r6 ← wantS 41 r5
      pure (.mk 6 0 f t u [] [] 0 0 [], r6)
    else
      let r4 ← wantS 41 r3
      pure (.mk k 0 f t emp [] [] 0 0 [], r4)
def queryS : Nat → R → E (QT × R)
  | 0, r => match kindS 0 r with
    | .error e => .error e
    | .ok _ => .error (0, 0)
  | d + 1, r => match kindS (d + 1) r with
    | .error e => .error e
    | .ok (k, r1) => if k = 1 ∨ k = 2 then .ok (.mk k 0 emp emp emp [] [] 0 0 [], r1) else match wantS 40 r1 with
      | .error e => .error e
      | .ok r2 => bodyS num par (queryS d) k r2
end
end QryP
