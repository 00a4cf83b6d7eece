/- What the library's functions give layer 7: a text's digits, a cut at the first point, zeros, a number's text; the variables of the library that they read. Contract: the program's Decimal, at every text and scale. -/
import Derived.Test.YtfckomjbgopmaaaGreatDoorChecked
import Derived.Test.YtfckomjbgopmaaaGreatDoorShelf
import Derived.Test.YtfckomjbgopmaaaGreatDoorPack16
import Derived.Lib.TrimUEq
import Derived.Lib.MapLaws
import Derived.Lib.SmallJoins
import Derived.Lib.LaidTab
import Derived.Deep.Light
import Derived.Outline
section
set_option linter.unusedVariables false
namespace OrdP
open Go.Lib Go

theorem prefix_minus (l : List UInt8) : hasPrefix l [45] = below l ∧ trimPrefix l [45] = size l := by
  have h : hasPrefix l [45] = below l := by
    unfold hasPrefix below
    cases l with
    | nil => rfl
    | cons c r =>
      simp only [List.isPrefixOf, List.head?_cons, Option.some.injEq, Bool.and_true]
      rw [Bool.eq_iff_iff, beq_iff_eq, decide_eq_true_eq]
      exact eq_comm
  refine ⟨h, ?_⟩
  unfold trimPrefix size
  rw [h]; rfl
def noDig (x : Nat) : Bool := decide (x < 48 ∨ 57 < x)
where
  Utf8_drop (s : ByteArray) (pos : Nat) : decodeL (s.data.toList.drop pos) = Utf8.decode s pos := decodeL_drop s pos
theorem zeros_rep (c : Nat) : repeatL [48] c = zeros c := by
  have := repeatL_replicate 48 1 c
  rw [Nat.mul_one] at this
  exact this
end OrdP
namespace Go.Proofs.YtfckomjbgopmaaaGreatDoor.OrdLib
open Go.RowKit Go.Lib OrdP Kit OrdRef

/-- The library's variables that layer 7 reads. -/
structure OTabs (w : World) : Prop where
  max : ∃ m, w.cell? ⟨1, 0, none⟩ = some (.int .i64 m)
  range : ∃ ev, w.cell? ⟨3, 0, none⟩ = some ev ∧ (ev = .nilIface ∨ ∃ te pe, ev = .iface te pe)
  pow : Lib.TabIs Tryz.prog w "internal/strconv.uint64pow10" .u64 Lib.pow10Tab
theorem OTabs.next {w w' : World} (h : OTabs w) (hb : Below w.heap.size w w') : OTabs w' := by
  obtain ⟨⟨m, hm⟩, ⟨ev, he, hv⟩, hp⟩ := h
  exact ⟨⟨m, (hb.cell (World.block_lt_of_cell? w _ hm)).trans hm⟩, ⟨ev, (hb.cell (World.block_lt_of_cell? w _ he)).trans he, hv⟩, Go.Joins.tab_stays (g := 0) (by kernel_rfl) hp hb (Nat.le_refl _)⟩

theorem below_drewN' {w : World} (n : Nat) : Below w.heap.size w (w.drewN n) := ⟨rfl, rfl, rfl, Nat.le_refl _, fun _ _ => rfl⟩

def BoolB (b : Bool) (w : World) (e : Ending) (w' : World) : Prop := e = .returned (.bool b) ∧ Below w.heap.size w w'
theorem nodig_any (x : Nat) (hx : x ≤ 1114111) (w : World) : Calls Tryz.prog 131 #[.int .i32 x] w (fun e w' => e = .returned (.bool (noDig x)) ∧ w = w') := by
  unfold noDig
  by_cases h1 : x < 48
  · have b1 : decide ((x : Int) < 48) = true := by rw [decide_eq_true_eq]; omega
    go_enter Tryz.func131, Tryz.ntmps131
    go_wp2_with fail
    go_ret
    exact ⟨by simp [h1], rfl⟩
  · have b1 : decide ((x : Int) < 48) = false := by rw [decide_eq_false_iff_not]; omega
    by_cases h2 : 57 < x
    · have b2 : decide ((57 : Int) < (x : Int)) = true := by rw [decide_eq_true_eq]; omega
      go_enter Tryz.func131, Tryz.ntmps131
      go_wp2_with fail
      go_ret
      exact ⟨by simp [h1, h2], rfl⟩
    · have b2 : decide ((57 : Int) < (x : Int)) = false := by rw [decide_eq_false_iff_not]; omega
      go_enter Tryz.func131, Tryz.ntmps131
      go_wp2_with fail
      go_ret
      exact ⟨by simp [h1, h2], rfl⟩
theorem index_any (s : ByteArray) (w : World) : Calls Tryz.prog 130 #[.string s, .func (.func 131) #[] #[]] w (fun e w' => e = .returned (.int .i64 (Lib.idxFunc noDig true s)) ∧ Below w.heap.size w w') :=
  Tryz.strings_IndexFunc_grows 131 #[] (enters_of Tryz.func131 (by kernel_rfl) rfl) noDig s w (fun W x hx _ => (nodig_any x hx W).mono fun e w' ⟨he, hw⟩ => ⟨he, by subst hw; exact Below.refl _ _⟩)
/-- 'Repeat' of a zero. -/
theorem repeat_any (c : Int) (h0 : 0 ≤ c) (h1 : c ≤ 40) (z : ByteArray) (hz : z = str (zeros c.toNat)) (w : World) :
    Calls Tryz.prog 62 #[.string ⟨#[48]⟩, .int .i64 c] w (fun e w' => e = .returned (.string z) ∧ Below w.heap.size w w') := by
  obtain ⟨c, rfl⟩ : ∃ n : Nat, c = n := ⟨c.toNat, by omega⟩
  rw [Int.toNat_natCast] at hz
  subst hz
  match c, h1 with
  | 0, _ => exact (Tryz.strings_Repeat_zero ⟨#[48]⟩ w).mono fun e w' ⟨he, hw⟩ => ⟨he, by subst hw; exact Below.refl _ _⟩
  | 1, _ => exact (Tryz.strings_Repeat_one ⟨#[48]⟩ w).mono fun e w' ⟨he, hw⟩ => ⟨he, by subst hw; exact Below.refl _ _⟩
  | c + 2, h1 =>
    refine (Tryz.strings_Repeat_main ⟨#[48]⟩ (c + 2) w (by omega) (by omega) (by show 1 * (c + 2) ≤ _; omega) (by decide)).mono fun e w' ⟨he, hb⟩ => ⟨?_, hb⟩
    rw [he]
    have e2 : (⟨#[48]⟩ : ByteArray).data.toList = [48] := rfl
    rw [e2, zeros_rep]; rfl
end Go.Proofs.YtfckomjbgopmaaaGreatDoor.OrdLib
end
section
set_option linter.unusedVariables false
namespace Go.Proofs.YtfckomjbgopmaaaGreatDoor.OrdLib
open Go.RowKit Go.Lib OrdP Kit OrdRef

theorem str_size (l : List UInt8) : (str l).size = l.length := by simp [str, ByteArray.size]
theorem str_app (a b : List UInt8) : str (a ++ b) = str a ++ str b := by
  apply ByteArray.ext; apply Array.ext'; simp [str, ByteArray.data_append]
theorem prefix_any (s z : ByteArray) (b : Bool) (hz : z = str (OrdP.size s.data.toList)) (hb : b = below s.data.toList) (w : World) :
    Calls Tryz.prog 60 #[.string s, .string ⟨#[45]⟩] w (fun e w' => e = .returned (.tuple #[.string z, .bool b]) ∧ w = w') := by
  subst hz hb
  refine (Tryz.strings_CutPrefix s ⟨#[45]⟩ w).mono fun e w' ⟨he, hw⟩ => ⟨?_, hw.symm⟩
  rw [he]
  have e1 : (⟨#[45]⟩ : ByteArray).data.toList = [45] := rfl
  rw [e1, (prefix_minus _).1, (prefix_minus _).2]; rfl
end Go.Proofs.YtfckomjbgopmaaaGreatDoor.OrdLib
end
