/- Contracts: the document's words of kinds and of operations. Contract: the closure of query.write that puts a comma ahead. -/
import Derived.Test.YtinmiekbhoemjaaDoorQryRNums
import Derived.Test.YtinmiekbhoemjaaDoorRowX
import Derived.Test.YtinmiekbhoemjaaDoorQryBuf
section
set_option linter.unusedVariables false
namespace Go.Proofs.YtinmiekbhoemjaaDoor.Qry
open Go.RowKit Words Tree QryP Kit Owned

/-- A row of words is answered: the word of k at place k. -/
def WordsB (n : Int) (f : Int → List UInt8) (w : World) (e : Ending) (w' : World) : Prop := e = .returned (.slice (some ⟨w.heap.size, 0, none⟩) n.toNat n.toNat) ∧ Below w.heap.size w w' ∧ ∀ k : Int, 1 ≤ k → k < n → w'.cell? ⟨w.heap.size, k.toNat, none⟩ = some (.string (str (f k)))
set_option maxRecDepth 100000 in
set_option maxHeartbeats 4000000 in
theorem rwords_any (w : World) : Calls Tryd.prog 57 #[] w (WordsB 11 wordF w) := by
  go_enter Tryd.func57, Tryd.ntmps57
  go_wp2_with fail
  go_ret
  refine ⟨rfl, (Below.refl _ w).alloc (Nat.le_refl _) _, fun k h1 h2 => ?_⟩
  rw [(Blk.new w 9 #[.string ⟨#[]⟩, .string ⟨#[97, 108, 108]⟩, .string ⟨#[110, 111, 110, 101]⟩, .string ⟨#[116, 101, 114, 109]⟩, .string ⟨#[112, 104, 114, 97, 115, 101]⟩, .string ⟨#[112, 114, 101, 102, 105, 120]⟩, .string ⟨#[116, 101, 114, 109, 115]⟩, .string ⟨#[114, 97, 110, 103, 101]⟩, .string ⟨#[98, 111, 111, 108]⟩, .string ⟨#[98, 111, 111, 115, 116]⟩, .string ⟨#[119, 101, 105, 103, 104]⟩]).cell k.toNat]
  have : k = 1 ∨ k = 2 ∨ k = 3 ∨ k = 4 ∨ k = 5 ∨ k = 6 ∨ k = 7 ∨ k = 8 ∨ k = 9 ∨ k = 10 := by omega
  rcases this with rfl | rfl | rfl | rfl | rfl | rfl | rfl | rfl | rfl | rfl <;> rfl
set_option maxRecDepth 100000 in
set_option maxHeartbeats 4000000 in
theorem rops_any (w : World) : Calls Tryd.prog 60 #[] w (WordsB 4 opF w) := by
  go_enter Tryd.func60, Tryd.ntmps60
  go_wp2_with fail
  go_ret
  refine ⟨rfl, (Below.refl _ w).alloc (Nat.le_refl _) _, fun k h1 h2 => ?_⟩
  rw [(Blk.new w 9 #[.string ⟨#[]⟩, .string ⟨#[97, 100, 100]⟩, .string ⟨#[109, 117, 108]⟩, .string ⟨#[109, 97, 120]⟩]).cell k.toNat]
  have : k = 1 ∨ k = 2 ∨ k = 3 := by omega
  rcases this with rfl | rfl | rfl <;> rfl
end Go.Proofs.YtinmiekbhoemjaaDoor.Qry
end
section
set_option linter.unusedVariables false
namespace Go.Proofs.YtinmiekbhoemjaaDoor.Qry
open Go.RowKit Words Tree QryP Kit

def commaF (n : Nat) : List UInt8 := if n = 0 then [] else [44, 32]
/-- A part has been written, and counted. -/
def PartR (B b P : Nat) (l : List UInt8) (n : Nat) (w : World) (e : Ending) (w' : World) : Prop := e = .returned (.tuple #[]) ∧ Buf B b l w' ∧ Wr B (fun g => g = b ∨ g = P) w w' ∧ Blk w' P 3 #[.int .i64 (n : Int)]
set_option maxRecDepth 100000 in
set_option maxHeartbeats 8000000 in
theorem part_any (B b T P : Nat) (l x : List UInt8) (n : Nat) (F : FuncId) (caps : Array Value) (w : World) (hT : Blk w T 42 #[.pointer (some ⟨b, 0, none⟩)]) (hP : Blk w P 3 #[.int .i64 (n : Int)]) (hPb : P ≠ b) (hTb : T ≠ b) (hTP : T ≠ P) (hBP : B ≤ P) (hn : n ≤ 1000000000000000000)
    (h : Buf B b l w) (hl : l.length + 2 + x.length ≤ maxW) (hE : ∀ args w, (callFunc F args).run Tryd.prog w = .ok (.enter F args) w)
    (hF : ∀ W, Wr B (fun g => g = b ∨ g = P) w W → Buf B b (l ++ commaF n) W → Calls Tryd.prog F caps W (PutU B b (l ++ commaF n) x W)) :
    Calls Tryd.prog 42 #[.func (.func F) #[] caps, .pointer (some ⟨P, 0, none⟩), .pointer (some ⟨T, 0, none⟩)] w (PartR B b P (l ++ (commaF n ++ x)) (n + 1) w) := by
  have c0 : w.cell? ⟨P, 0, none⟩ = some (.int .i64 (n : Int)) := hP.cell 0
  have f0 : w.frozen? ⟨P, 0, none⟩ = false := hP.frozen 0
  -- the world with the count raised
  have HW1 : Hid (Wr B (fun g => g = b ∨ g = P) w (w.setCell ⟨P, 0, none⟩ (.int .i64 ((n : Int) + 1)))) := Lib.hid ((Wr.refl _ _ _).set (p := ⟨P, 0, none⟩) (.inr rfl) hBP _)
  have HP1 : Hid (Blk (w.setCell ⟨P, 0, none⟩ (.int .i64 ((n : Int) + 1))) P 3 #[.int .i64 ((n : Int) + 1)]) := Lib.hid (hP.set_ 0 _)
  have HT1 : Hid (Blk (w.setCell ⟨P, 0, none⟩ (.int .i64 ((n : Int) + 1))) T 42 #[.pointer (some ⟨b, 0, none⟩)]) := Lib.hid (HW1.out.blk hT (by simp [hTb, hTP]) (by decide))
  have HB1 : Hid (Buf B b l (w.setCell ⟨P, 0, none⟩ (.int .i64 ((n : Int) + 1)))) := Lib.hid (h.set (p := ⟨P, 0, none⟩) hP (by decide) hPb _)
  have HF := Lib.hid hF
  have HL := Lib.hid hl
  have hcT : (w.setCell ⟨P, 0, none⟩ (.int .i64 ((n : Int) + 1))).cell? ⟨T, 0, none⟩ = some (.pointer (some ⟨b, 0, none⟩)) := HT1.out.cell 0
  have hcP : (w.setCell ⟨P, 0, none⟩ (.int .i64 ((n : Int) + 1))).cell? ⟨P, 0, none⟩ = some (.int .i64 ((n : Int) + 1)) := HP1.out.cell 0
  clear hT hP h hF hl
  by_cases hn0 : n = 0
  · subst hn0
    go_enter Tryd.func42, Tryd.ntmps42
    go_wp2_with fail
    refine (HF.out _ HW1.out (by simpa [commaF] using HB1.out)).mono ?_
    rintro e w2 ⟨rfl, hb, hw⟩
    have HB2 := Lib.hid hb
    have HW2 := Lib.hid (HW1.out.trans (hw.mono fun g e => .inl e))
    have HP2 := Lib.hid (hw.blk HP1.out hPb (by decide))
    clear hb hw hcT hcP
    go_wp2_with fail
    go_end0
    exact ⟨rfl, by simpa [commaF] using HB2.out, HW2.out, HP2.out⟩
  · have hd : decide ((1 : Int) < (n : Int) + 1) = true := decide_eq_true (by omega)
    have hc : commaF n = [44, 32] := if_neg hn0
    rw [hc] at HF
    have HC := Lib.hid hc
    have HS := Lib.hid (string_put B b l ⟨#[44, 32]⟩ _ HB1.out (by have := HL.out; show l.length + 2 ≤ maxW; omega))
    clear hc hn0
    go_enter Tryd.func42, Tryd.ntmps42
    go_wp2_with fail
    refine HS.out.mono ?_
    rintro e w2 ⟨rfl, hb, hw⟩
    have HB2 := Lib.hid hb
    have HW2 := Lib.hid (HW1.out.trans (hw.mono fun g e => .inl e))
    have HP2 := Lib.hid (hw.blk HP1.out hPb (by decide))
    clear hb hw hcT hcP
    go_wp2_with fail
    refine (HF.out _ HW2.out HB2.out).mono ?_
    rintro e w3 ⟨rfl, hb, hw⟩
    have HB3 := Lib.hid hb
    have HW3 := Lib.hid (HW2.out.trans (hw.mono fun g e => .inl e))
    have HP3 := Lib.hid (hw.blk HP2.out hPb (by decide))
    clear hb hw
    go_wp2_with fail
    go_end0
    exact ⟨rfl, by rw [HC.out]; simpa [List.append_assoc] using HB3.out, HW3.out, HP3.out⟩
end Go.Proofs.YtinmiekbhoemjaaDoor.Qry
end
