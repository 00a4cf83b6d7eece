/- A text that is being built, what is kept beside it, and the contracts of what writes to it: bytes, texts, quoted texts, numbers. -/
import Derived.Test.YtinmiekbhoemjaaDoorPack6
import Derived.Test.YtinmiekbhoemjaaDoorQry
import Derived.Test.YtinmiekbhoemjaaDoorPack11
import Derived.Test.YtinmiekbhoemjaaDoorOrdText
import Derived.LoopTactic
set_option linter.unusedVariables false
namespace Go.Proofs.YtinmiekbhoemjaaDoor.Qry
open Go.RowKit Words Tree QryP Kit

/-- The builder at block b holds l. -/
def Buf (B b : Nat) (l : List UInt8) (w : World) : Prop := Lib.IsBuilderF 45 5 B b (Lib.byteCells l) w
/-- What was below B stands, and so does every block but those of S and rows of bytes. -/
structure Wr (B : Nat) (S : Nat → Prop) (w w' : World) : Prop where
  below : Below B w w'
  kept : ∀ g o, w.heap[g]? = some o → ¬ S g → (∀ c fz, o ≠ .cells c 5 fz) → w'.heap[g]? = some o
section
variable {B b : Nat} {S S' : Nat → Prop} {w w' w'' : World}
theorem Wr.refl (B : Nat) (S : Nat → Prop) (w : World) : Wr B S w w := ⟨Below.refl _ _, fun _ _ h _ _ => h⟩
theorem Wr.trans (h : Wr B S w w') (k : Wr B S w' w'') : Wr B S w w'' := ⟨h.below.trans k.below, fun g o h1 h2 h3 => k.kept g o (h.kept g o h1 h2 h3) h2 h3⟩
theorem Wr.mono (h : Wr B S w w') (hS : ∀ g, S g → S' g) : Wr B S' w w' := ⟨h.below, fun g o h1 h2 h3 => h.kept g o h1 (fun x => h2 (hS g x)) h3⟩
theorem Wr.of (h : Below B w w') (k : Lib.OthersKept 5 (some b) w w') : Wr B (fun g => g = b) w w' := ⟨h, fun g o h1 h2 h3 => k g o h1 (fun e => h2 (Option.some.inj e)) h3⟩
theorem Wr.alloc (h : Wr B S w w') (hB : B ≤ w'.heap.size) (o : Obj) : Wr B S w (w'.alloc o) := ⟨h.below.alloc hB o, fun g x h1 h2 h3 => by
  have := h.kept g x h1 h2 h3
  exact (Lib.alloc_old w' o g (Array.getElem?_eq_some_iff.1 this).1).trans this⟩
theorem Wr.same (h : Below w.heap.size w w') (hB : B ≤ w.heap.size) : Wr B S w w' := ⟨h.mono hB, fun g x h1 _ _ => (h.block g (Array.getElem?_eq_some_iff.1 h1).1).trans h1⟩
theorem Wr.set (h : Wr B S w w') {p : Addr} (hp : S p.block) (hB : B ≤ p.block) (v : Value) : Wr B S w (w'.setCell p v) := ⟨h.below.setCell hB v, fun g x h1 h2 h3 => (Below.heap_setCell _ _ _ _ (by rintro rfl; exact h2 hp)).trans (h.kept g x h1 h2 h3)⟩
theorem Wr.blk {g : Nat} {t : TypeId} {cs : Array Value} (h : Wr B S w w') (hb : Blk w g t cs) (hS : ¬ S g) (ht : t ≠ 5) : Blk w' g t cs := h.kept g _ hb hS (fun c fz e => by injection e with _ e; exact ht e)
theorem Buf.ge {l : List UInt8} (h : Buf B b l w) : B ≤ b := h.elim (fun x => x.1) (fun x => x.1)
theorem Buf.keep {l : List UInt8} (h : Buf B b l w) (hb : Below w.heap.size w w') : Buf B b l w' := by
  have key : ∀ p, Lib.BuilderAtF 45 5 B b p (Lib.byteCells l) w → Lib.BuilderAtF 45 5 B b p (Lib.byteCells l) w' := by
    rintro p ⟨h1, v, h2, h3, h4⟩
    refine ⟨h1, v, (hb.block b (Array.getElem?_eq_some_iff.1 h2).1).trans h2, ⟨h3.1, h3.2.elim .inl fun ⟨g, cap, cur, fz, hv, g1, g2, g3⟩ => .inr ⟨g, cap, cur, fz, hv, g1, (hb.block g (Array.getElem?_eq_some_iff.1 g2).1).trans g2, g3⟩⟩, h4⟩
  exact h.elim (fun x => .inl (key _ x)) (fun x => .inr (key _ x))
theorem Buf.set {l : List UInt8} (h : Buf B b l w) {p : Addr} {t : TypeId} {cs : Array Value} (hp : Blk w p.block t cs) (ht : t ≠ 5) (hb : p.block ≠ b) (v : Value) : Buf B b l (w.setCell p v) := by
  have key : ∀ q, Lib.BuilderAtF 45 5 B b q (Lib.byteCells l) w → Lib.BuilderAtF 45 5 B b q (Lib.byteCells l) (w.setCell p v) := by
    rintro q ⟨h1, x, h2, h3, h4⟩
    refine ⟨h1, x, (Below.heap_setCell _ _ _ _ (Ne.symm hb)).trans h2, ⟨h3.1, h3.2.elim .inl fun ⟨g, cap, cur, fz, hv, g1, g2, g3⟩ => .inr ⟨g, cap, cur, fz, hv, g1, (Below.heap_setCell _ _ _ _ ?_).trans g2, g3⟩⟩, h4⟩
    rintro rfl
    have hp' : w.heap[p.block]? = some (.cells cs t (0, 0)) := hp
    rw [hp'] at g2
    injection g2 with g2
    injection g2 with _ g2
    exact ht g2
  exact h.elim (fun x => .inl (key _ x)) (fun x => .inr (key _ x))
theorem Buf.size {l : List UInt8} (h : Buf B b l w) : b < w.heap.size := by
  rcases h with ⟨_, v, h2, _⟩ | ⟨_, v, h2, _⟩ <;> exact (Array.getElem?_eq_some_iff.1 h2).1
end
/-- x has been written behind l. -/
def Put (B b : Nat) (l x : List UInt8) (w : World) (e : Ending) (w' : World) : Prop := Buf B b (l ++ x) w' ∧ Wr B (fun g => g = b) w w'
def PutU (B b : Nat) (l x : List UInt8) (w : World) (e : Ending) (w' : World) : Prop := e = .returned (.tuple #[]) ∧ Put B b l x w e w'
def maxW : Nat := 140737488355328
theorem cells_snoc (l : List UInt8) (c : UInt8) : Lib.byteCells l ++ [.int .u8 c.toNat] = Lib.byteCells (l ++ [c]) := by simp [Lib.byteCells]
theorem byte_put (B b : Nat) (l : List UInt8) (c : UInt8) (w : World) (h : Buf B b l w) (hl : l.length + 1 ≤ maxW) : Calls Tryd.prog 43 #[.pointer (some ⟨b, 0, none⟩), .int .u8 c.toNat] w fun e w' => e = .returned .nilIface ∧ Put B b l [c] w e w' :=
  (SBuilder.writeByte_any B b _ c.toNat w h (by simpa [Lib.byteCells, maxW] using hl) (by have := h.ge; have := h.size; omega)).mono fun e w' ⟨h1, h2, h3, h4⟩ => ⟨h1, by rw [cells_snoc] at h2; exact .inr h2, Wr.of h3 h4⟩
theorem string_put (B b : Nat) (l : List UInt8) (s : ByteArray) (w : World) (h : Buf B b l w) (hl : l.length + s.size ≤ maxW) : Calls Tryd.prog 40 #[.pointer (some ⟨b, 0, none⟩), .string s] w fun e w' => e = .returned (.tuple #[.int .i64 s.size, .nilIface]) ∧ Put B b l s.data.toList w e w' :=
  (SBuilder.writeString_any B b _ s w h (by simpa [Lib.byteCells, maxW] using hl) (by have := h.ge; have := h.size; omega)).mono fun e w' ⟨h1, h2, h3, h4⟩ => ⟨h1, by
    have : Lib.byteCells l ++ Lib.strCells s = Lib.byteCells (l ++ s.data.toList) := by simp [Lib.byteCells, Lib.strCells]
    rw [this] at h2; exact .inr h2, Wr.of h3 h4⟩
end Go.Proofs.YtinmiekbhoemjaaDoor.Qry
