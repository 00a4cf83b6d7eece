/- Contracts: 'letters', and 'tokens' at the tokenizers of one run a token. Contract: the document's Check of a chain. Contracts of the document's Letter, Digit and Mark. Contracts: the document's word, may, runs. -/
import Derived.Test.YtfckomjbgopmaaaGreatDoorAnaRuns
import Derived.Test.YtfckomjbgopmaaaGreatDoorPack19
import Derived.Test.YtfckomjbgopmaaaGreatDoorPack11
import Derived.Deep.QuietTactic
import Derived.BigQuiet
import Derived.Test.YtfckomjbgopmaaaGreatDoorFoldAmong
import Derived.Test.YtfckomjbgopmaaaGreatDoorAnaEnd
section
set_option linter.unusedVariables false
namespace Go.Proofs.YtfckomjbgopmaaaGreatDoor.Ana
open Go.RowKit Go.Lib FoldP FoldInts Kit FoldForms FoldNext FoldIter AnaP Words Owned Tree

theorem OwnToks.base {ts : List TokD} {w0 w w' : World} {e : Ending} (h : OwnToks ts w e w') (hb : Below w0.heap.size w0 w) : OwnToks ts w0 e w' := by
  obtain ⟨v, h1, h2, h3⟩ := h
  exact ⟨v, h1, own_base h2 hb.size, hb.trans (h3.mono hb.size)⟩
theorem letters_any (s : ByteArray) (w : World) (hs : s.size ≤ 1099511627776) (hT : Tabs w) :
    Calls Tryz.prog 88 #[.string s] w (OwnToks (tokOf s (runIx mayF wordF (runeL s.data.toList) 0 none)) w) := by
  have hb0 : Below w.heap.size w (w.alloc (.cells #[.func (.func 116) #[] #[]] 139)) := (Below.refl _ _).alloc (Nat.le_refl _) _
  have HC := Lib.hid (runs_words s w.heap.size (w.alloc (.cells #[.func (.func 116) #[] #[]] 139)) hs (hT.next hb0) (by simp) ((Blk.new w 139 #[.func (.func 116) #[] #[]]).cell 0))
  have HB := Lib.hid hb0
  have hmf : ∀ (fn : Fn) (first cap : Array Value) (w : World), (Instr.makeFunc fn first cap).run Tryz.prog w = .ok (.func fn first cap) w := fun _ _ _ _ => rfl
  generalize tokOf s (runIx mayF wordF (runeL s.data.toList) 0 none) = R at *
  clear hb0 hT
  go_enter Tryz.func88, Tryz.ntmps88
  go_wp2_with fail
  refine HC.out.mono ?_
  rintro e w' h
  obtain ⟨v, rfl, h2, h3⟩ := h.base HB.out
  have H2 := Lib.hid h2; have H3 := Lib.hid h3
  clear h h2 h3
  go_wp2_with fail
  go_ret
  exact ⟨v, rfl, H2.out, H3.out⟩
theorem toks_1 (s : ByteArray) (w : World) (hs : s.size ≤ 1099511627776) (hT : Tabs w) :
    Calls Tryz.prog 66 #[.int .i64 1, .string s] w (OwnToks (tokensF 1 s) w) := by
  have HE : Hid (tokensF 1 s = tokOf s (runIx mayF wordF (runeL s.data.toList) 0 none)) := Lib.hid rfl
  have HC := Lib.hid (letters_any s w hs hT)
  rw [HE.out]
  generalize tokOf s (runIx mayF wordF (runeL s.data.toList) 0 none) = R at *
  clear hT
  go_enter Tryz.func66, Tryz.ntmps66
  go_wp2_with fail
  refine HC.out.mono ?_
  rintro e w' ⟨v, rfl, h2, h3⟩
  have H2 := Lib.hid h2; have H3 := Lib.hid h3
  clear h2 h3
  go_wp2_with fail
  go_ret
  exact ⟨v, rfl, H2.out, H3.out⟩
theorem toks_2 (s : ByteArray) (w : World) (hs : s.size ≤ 1099511627776) (hT : Tabs w) :
    Calls Tryz.prog 66 #[.int .i64 2, .string s] w (OwnToks (tokensF 2 s) w) := by
  have HE : Hid (tokensF 2 s = tokOf s (runIx solidF solidF (runeL s.data.toList) 0 none)) := Lib.hid rfl
  have HC := Lib.hid (runs_solid s w hs hT)
  rw [HE.out]
  generalize tokOf s (runIx solidF solidF (runeL s.data.toList) 0 none) = R at *
  clear hT
  go_enter Tryz.func66, Tryz.ntmps66
  go_wp2_with fail
  refine HC.out.mono ?_
  rintro e w' ⟨v, rfl, h2, h3⟩
  have H2 := Lib.hid h2; have H3 := Lib.hid h3
  clear h2 h3
  go_wp2_with fail
  go_ret
  exact ⟨v, rfl, H2.out, H3.out⟩
theorem toks_3 (s : ByteArray) (w : World) (hs : s.size ≤ 1099511627776) (hT : Tabs w) :
    Calls Tryz.prog 66 #[.int .i64 3, .string s] w (OwnToks (tokensF 3 s) w) := by
  have HE : Hid (tokensF 3 s = tokOf s (runIx anyF anyF (runeL s.data.toList) 0 none)) := Lib.hid (by rw [runIx_whole]; rfl)
  have HC := Lib.hid (runs_whole s w hs hT)
  rw [HE.out]
  generalize tokOf s (runIx anyF anyF (runeL s.data.toList) 0 none) = R at *
  clear hT
  go_enter Tryz.func66, Tryz.ntmps66
  go_wp2_with fail
  refine HC.out.mono ?_
  rintro e w' ⟨v, rfl, h2, h3⟩
  have H2 := Lib.hid h2; have H3 := Lib.hid h3
  clear h2 h3
  go_wp2_with fail
  go_ret
  exact ⟨v, rfl, H2.out, H3.out⟩
end Go.Proofs.YtfckomjbgopmaaaGreatDoor.Ana
end
section
set_option linter.unusedVariables false
namespace Go.Proofs.YtfckomjbgopmaaaGreatDoor.Ana
open Go.RowKit Go.Lib AnaP Words Tree Kit Owned

end Go.Proofs.YtfckomjbgopmaaaGreatDoor.Ana
end
section
namespace Go.Proofs.YtfckomjbgopmaaaGreatDoor.FoldAmong
open Go.RowKit FoldP FoldInts Kit

end Go.Proofs.YtfckomjbgopmaaaGreatDoor.FoldAmong
end
section
set_option linter.unusedVariables false
namespace Go.Proofs.YtfckomjbgopmaaaGreatDoor.Ana
open Go.RowKit Go.Lib AnaP Words Tree Kit Owned FoldP FoldInts FoldAmong

def runeCells (l : List Int) : List Value := l.map (Value.int .i32)
theorem own_slice2 {w : World} {B n m : Nat} {e : TypeId} {v : Value} {xs : List Value} (h : w.ownsRow B e m v n xs) : ∃ ao cap, v = .slice ao n cap := by
  rcases h.2 with ⟨rfl, h0⟩ | ⟨g, cap, cur, rfl, _⟩
  · exact ⟨none, 0, by rw [h0]⟩
  · exact ⟨_, _, rfl⟩
end Go.Proofs.YtfckomjbgopmaaaGreatDoor.Ana
end
