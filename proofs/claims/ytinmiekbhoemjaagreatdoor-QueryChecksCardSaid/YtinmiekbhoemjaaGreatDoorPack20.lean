/- Contracts of the document's answers for letters, digits, marks and lower case. DERIVED: THE SHELF's CONTRACTS AT THIS DUMP, IN PLAIN WORDS (tools/lay-plain.mjs out of 'TryzShelf.lean', which tools/lay-shelf.mjs wrote): THE SAME DECLARATIONS UNDER THE SAME NAMES: 'import', 'namespace', 'open', 'def', 'theorem' AND NOTHING ELSE: no command of the shelf's: FOR A HAND-IN. Each laying: the table of numbers ('.._ren') and one theorem, a field a fact of the dump's own or the kernel's comparison; each contract: ONE APPLICATION. Contracts: a rune's form, in the program and in the document's answer. Contracts: 'Put' of the program and of the document's answer. Contracts: 'Next' of the program and of the document's answer, at every text and place. -/
import Derived.Test.YtinmiekbhoemjaaGreatDoorFoldInts
import Derived.Shelf.Strings.Builder1
import Derived.Shelf.Strings.BuilderF
import Derived.Shelf.Strings.BuilderK
import Derived.Shelf.Strings.BuilderRune
import Derived.Shelf.Utf8.AppendRune
import Derived.Shelf.Utf8.AppendRunePlain
import Derived.Shelf.Unicode.Decode
import Derived.Shelf.Unicode.DecodeSlow
import Derived.Shelf.Unicode.DecodeAny
import Derived.Shelf.Strings.BuilderCap
import Derived.Test.YtinmiekbhoemjaaGreatDoorProg
import Derived.Test.YtinmiekbhoemjaaGreatDoorPack2
import Derived.Lib.Strings
import Derived.Deep.Draws
section
namespace Go.Proofs.YtinmiekbhoemjaaGreatDoor.FoldAmong
open Go.RowKit FoldP FoldInts Kit

set_option maxHeartbeats 400000 in
theorem among_any (r : Int) (bl n c : Nat) (zs : List Int) (w : World) (hz : n = zs.length) (hn : n ≤ 1000)
    (hc : ∀ i, i < n → w.cell? ⟨bl, i, none⟩ = some (.int .i32 (zs.getD i 0))) :
    Calls Tryz.prog 104 #[.int .i32 r, .slice (some ⟨bl, 0, none⟩) n c] w (BoolRet (amongB r zs) w) := by
  have HZ := Lib.hid hz; clear hz
  have HC := Lib.hid hc; clear hc
  go_enter Tryz.func104, Tryz.ntmps104
  go_wp2
  go_loop [5] (fun i => ∃ k : Nat, k ≤ n + 1 ∧ i = .int .i64 k ∧ amongB r zs = amongB r (zs.drop k)) (fun i => n + 2 - (intOf i).toNat)
  case atStart => exact ⟨0, Nat.zero_le _, rfl, rfl⟩
  case round =>
    obtain ⟨k, hk, rfl, hrest⟩ := hrel
    have HR := Lib.hid hrest; clear hrest
    by_cases hlt : k + 1 < n
    · have h0 : w.cell? ⟨bl, k, none⟩ = some (.int .i32 (zs.getD k 0)) := HC.out k (by omega)
      have h1 : w.cell? ⟨bl, k + 1, none⟩ = some (.int .i32 (zs.getD (k + 1) 0)) := HC.out (k + 1) (by omega)
      generalize hx : zs.getD k 0 = x at *
      generalize hy : zs.getD (k + 1) 0 = y at *
      have HX := Lib.hid hx; clear hx
      have HY := Lib.hid hy; clear hy
      have HS : Hid (amongB r (zs.drop k) = (inB r x y || amongB r (zs.drop (k + 2)))) := Lib.hid (by rw [← HX.out, ← HY.out]; exact among_step r zs k (by rw [← HZ.out]; exact hlt))
      have e0 : ¬ x ≤ r → inB r x y = false := fun h => inB_false.2 (by omega)
      have e1 : y < r → inB r x y = false := fun h => inB_false.2 (by omega)
      have e2 : x ≤ r → r ≤ y → inB r x y = true := fun h h' => inB_true.2 ⟨h, h'⟩
      have E0 := Lib.hid e0; clear e0
      have E1 := Lib.hid e1; clear e1
      have E2 := Lib.hid e2; clear e2
      go_wp2
      · go_ret
        exact ⟨ret_bool (by rw [HR.out, HS.out, E2.out ‹_› ‹_›]; rfl), rfl⟩
      · exact ⟨⟨k + 2, by omega, by go_num, by rw [HR.out, HS.out, E1.out ‹_›]; rfl⟩, by simp [intOf]; omega⟩
      · exact ⟨⟨k + 2, by omega, by go_num, by rw [HR.out, HS.out, E0.out ‹_›]; rfl⟩, by simp [intOf]; omega⟩
    · go_wp2
      go_ret
      exact ⟨ret_bool (by rw [HR.out, among_done r zs k (by rw [← HZ.out]; exact hlt)]), rfl⟩

/-- A bool is answered; new memory may have been made, nothing else has changed. -/
def BoolBelow (b : Bool) (w : World) (e : Ending) (w' : World) : Prop := e = .returned (.bool b) ∧ Below w.heap.size w w'

theorem listCells (w : World) (zs : List Int) (t : TypeId) :
    ∀ i, i < zs.length → (w.alloc (.cells (zs.map (Value.int .i32)).toArray t)).cell? ⟨w.heap.size, i, none⟩ = some (.int .i32 (zs.getD i 0)) := by
  intro i hi
  rw [World.cell?_alloc_new]
  simp [List.getD_eq_getElem?_getD, List.getElem?_eq_getElem hi]

/-- 'among' at a list that has just been laid. -/
theorem among_new (r : Int) (zs : List Int) (w : World) (t : TypeId) (hn : zs.length ≤ 1000) :
    Calls Tryz.prog 104 #[.int .i32 r, .slice (some ⟨w.heap.size, 0, none⟩) zs.length zs.length]
      (w.alloc (.cells (zs.map (Value.int .i32)).toArray t)) (BoolRet (amongB r zs) (w.alloc (.cells (zs.map (Value.int .i32)).toArray t))) :=
  among_any r w.heap.size zs.length zs.length zs _ rfl hn (listCells w zs t)

/-- 'among' at a list that has just been laid, both ways. -/
theorem among_split (r : Int) (zs : List Int) (w : World) (t : TypeId) (n : Nat) (p : Prop) (hn : zs.length ≤ 1000) (hp : amongB r zs = true ↔ p) (hb : p → 0 ≤ r ∧ r ≤ 2000) {R : Ending → World → Prop}
    (hs : n = w.heap.size) (ht : p → 0 ≤ r → r ≤ 2000 → R (.returned (.bool true)) (w.alloc (.cells (zs.map (Value.int .i32)).toArray t)))
    (hf : ¬ p → R (.returned (.bool false)) (w.alloc (.cells (zs.map (Value.int .i32)).toArray t))) :
    Calls Tryz.prog 104 #[.int .i32 r, .slice (some ⟨n, 0, none⟩) zs.length zs.length]
      (w.alloc (.cells (zs.map (Value.int .i32)).toArray t)) R := by
  subst hs
  refine (among_new r zs w t hn).mono ?_
  rintro e w' ⟨rfl, rfl⟩
  cases h : amongB r zs
  · exact hf (fun hh => by rw [hp.2 hh] at h; cases h)
  · have := hb (hp.1 h); exact ht (hp.1 h) this.1 this.2

theorem bdA {r : Int} (h : isA r) : 0 ≤ r ∧ r ≤ 2000 := by unfold isA at h; omega
theorem bdB {r : Int} (h : isB r) : 0 ≤ r ∧ r ≤ 2000 := by unfold isB at h; omega
theorem bdC {r : Int} (h : isC r) : 0 ≤ r ∧ r ≤ 2000 := by unfold isC at h; omega

def IntBelow (n : Int) (w : World) (e : Ending) (w' : World) : Prop := e = .returned (.int .i32 n) ∧ Below w.heap.size w w'

set_option maxHeartbeats 1000000 in
theorem refLower_any (r : Int) (w : World) :
    Calls Tryz.prog 103 #[.int .i32 r] w (IntBelow (lowerF r) w) := by
  go_enter Tryz.func103, Tryz.ntmps103
  go_wp2_with fail
  refine among_split r low1 _ _ _ (isA r) (by decide) (among_low1 r) bdA (by simp) ?_ ?_ <;> intros
  · go_wp2_with fail
    go_ret
    exact ⟨ret_int (low_A r (by assumption)), by repeat (first | exact Below.refl _ _ | refine Below.alloc ?_ (by simp; try omega) _)⟩
  go_wp2_with fail
  refine among_split r low2 _ _ _ (isB r) (by decide) (among_low2 r) bdB (by simp) ?_ ?_ <;> intros
  · go_wp2_with fail
    go_ret
    exact ⟨ret_int (low_B' r (by assumption)), by repeat (first | exact Below.refl _ _ | refine Below.alloc ?_ (by simp; try omega) _)⟩
  go_wp2_with fail
  refine among_split r low3 _ _ _ (isC r) (by decide) (among_low3 r) bdC (by simp) ?_ ?_ <;> intros
  · go_wp2_with fail
    go_ret
    exact ⟨ret_int (low_C' r (by assumption)), by repeat (first | exact Below.refl _ _ | refine Below.alloc ?_ (by simp; try omega) _)⟩
  go_wp2_with fail
  refine among_split r l904 _ _ _ (0x388 ≤ r ∧ r ≤ 0x38A) (by decide) (among_904 r) (fun _ => by omega) (by simp) ?_ ?_ <;> intros
  · go_wp2_with fail
    go_ret
    exact ⟨ret_int (low_D r (by assumption)), by repeat (first | exact Below.refl _ _ | refine Below.alloc ?_ (by simp; try omega) _)⟩
  go_wp2_with fail
  refine among_split r l910 _ _ _ (0x38E ≤ r ∧ r ≤ 0x38F) (by decide) (among_910 r) (fun _ => by omega) (by simp) ?_ ?_ <;> intros
  · go_wp2_with fail
    go_ret
    exact ⟨ret_int (low_E r (by assumption)), by repeat (first | exact Below.refl _ _ | refine Below.alloc ?_ (by simp; try omega) _)⟩
  go_wp2_with fail
  refine among_split r l1024 _ _ _ (0x400 ≤ r ∧ r ≤ 0x40F) (by decide) (among_1024 r) (fun _ => by omega) (by simp) ?_ ?_ <;> intros
  · go_wp2_with fail
    go_ret
    exact ⟨ret_int (low_F r (by assumption)), by repeat (first | exact Below.refl _ _ | refine Below.alloc ?_ (by simp; try omega) _)⟩
  go_wp2_with fail
  all_goals go_ret
  all_goals go_light
  all_goals (simp only [beq_iff_eq, beq_eq_false_iff_ne] at *)
  all_goals refine ⟨ret_int ?_, by repeat (first | exact Below.refl _ _ | refine Below.alloc ?_ (by simp; try omega) _)⟩
  · have e1 : r = 0x178 := by assumption
    subst e1; exact low_178.symm
  · have e1 : r = 0x4C0 := by assumption
    subst e1; exact low_4C0.symm
  · have e1 : r = 0x386 := by assumption
    subst e1; exact low_386.symm
  · have e1 : r = 0x38C := by assumption
    subst e1; exact low_38C.symm
  · exact low_id r ‹_› ‹_› ‹_› ‹_› ‹_› ‹_› ‹_› ‹_› ‹_› ‹_›

end Go.Proofs.YtinmiekbhoemjaaGreatDoor.FoldAmong
end
section
namespace Go.Proofs
open Go.Shelf
def Tryz.lays169_ren : Go.Shelf.Ren := ⟨fun | 169 => 91 | n => n, fun | 70 => 128 | 9 => 9 | 0 => 0 | 72 => 130 | 37 => 97 | 127 => 147 | 3 => 3 | 5 => 5 | n => n, fun | n => n⟩
theorem Tryz.lays169 : Go.Proofs.Lays.n169 Tryz.prog Tryz.lays169_ren := {
  mixed := by kernel_rfl
  f169 := Tryz.func91.trans (congrArg some (by kernel_rfl))
  t0 := Tryz.underlying0
  a0 := Tryz.isAgg0
  z0 := Tryz.sizeOf0
  v0 := Tryz.zeroValue0
  t3 := Tryz.underlying3
  a3 := Tryz.isAgg3
  z3 := Tryz.sizeOf3
  v3 := Tryz.zeroValue3
  t9 := Tryz.underlying9
  a9 := Tryz.isAgg9
  z9 := Tryz.sizeOf9
  v9 := Tryz.zeroValue9
  t37 := Tryz.underlying97
  a37 := Tryz.isAgg97
  z37 := Tryz.sizeOf97
  v37 := Tryz.zeroValue97
  t70 := Tryz.underlying128
  a70 := Tryz.isAgg128
  z70 := Tryz.sizeOf128
  v70 := Tryz.zeroValue128
  t72 := Tryz.underlying130
  a72 := Tryz.isAgg130
  z72 := Tryz.sizeOf130
  v72 := Tryz.zeroValue130
  t127 := Tryz.underlying147
  a127 := Tryz.isAgg147
  z127 := Tryz.sizeOf147
  v127 := Tryz.zeroValue147 }
theorem Tryz.Builder_Extra_169 : Builder.Extra Tryz.prog Tryz.lays169_ren := {
  sizeBuilder := by kernel_rfl
  liesBuilder := by kernel_rfl
  t5 := Tryz.underlying5
  a5 := Tryz.isAgg5
  z5 := Tryz.sizeOf5
  v5 := Tryz.zeroValue5
  infoByte := by kernel_rfl
  cellsByte := by kernel_rfl
  sizeByte := by kernel_rfl
  neB5 := by decide }
open Go.RowKit in
/-- (*strings.Builder).String: "String returns the accumulated string.": WHATEVER THE BUILDER HOLDS; THE FORM '_k': OVER 'Lib.IsBuilderF' (a builder that 'String()' may have read), AND WITH THE FRAME THAT REACHES ABOVE THE BUILDER: 'Lib.OthersKept': every block that is not b and is no row of uint8's stands as it stood: the iterator of a range among them. (LAID: no walk: one application.) -/
theorem Tryz.Builder_String_any_k (B b : Nat) (l : List UInt8) (w : World) (h : Lib.IsBuilderF 130 5 B b (Lib.byteCells l) w) (hBw : B ≤ w.heap.size) :
    Calls Tryz.prog 91 #[.pointer (some ⟨b, 0, none⟩)] w fun e w' => e = .returned (.string ⟨l.toArray⟩) ∧ (Lib.IsBuilderF 130 5 B b (Lib.byteCells l) w' ∧ Below B w w' ∧ Lib.OthersKept 5 (some b) w w') := Any.Builder_String_any_k Tryz.lays169 Tryz.Builder_Extra_169 B b l w h hBw
def Tryz.lays242_ren : Go.Shelf.Ren := ⟨fun | 242 => 118 | 278 => 121 | n => n, fun | 37 => 97 | 21 => 21 | 51 => 153 | 4 => 4 | 5 => 5 | 46 => 155 | n => n, fun | n => n⟩
theorem Tryz.lays242 : Go.Proofs.Lays.n242 Tryz.prog Tryz.lays242_ren := {
  mixed := by kernel_rfl
  f242 := Tryz.func118.trans (congrArg some (by kernel_rfl))
  f278 := Tryz.func121.trans (congrArg some (by kernel_rfl))
  t4 := Tryz.underlying4
  a4 := Tryz.isAgg4
  z4 := Tryz.sizeOf4
  v4 := Tryz.zeroValue4
  t5 := Tryz.underlying5
  a5 := Tryz.isAgg5
  z5 := Tryz.sizeOf5
  v5 := Tryz.zeroValue5
  t21 := Tryz.underlying21
  a21 := Tryz.isAgg21
  z21 := Tryz.sizeOf21
  v21 := Tryz.zeroValue21
  t37 := Tryz.underlying97
  a37 := Tryz.isAgg97
  z37 := Tryz.sizeOf97
  v37 := Tryz.zeroValue97
  t46 := Tryz.underlying155
  a46 := Tryz.isAgg155
  z46 := Tryz.sizeOf155
  v46 := Tryz.zeroValue155
  t51 := Tryz.underlying153
  a51 := Tryz.isAgg153
  z51 := Tryz.sizeOf153
  v51 := Tryz.zeroValue153 }
open Go.RowKit in
/-- unicode/utf8.AppendRune: "AppendRune appends the UTF-8 encoding of r to the end of p and returns the extended buffer. If the rune is out of range, it appends the encoding of RuneError.": ONTO A ROW OF BYTES THAT THE CALL OWNS (its head frozen or not): EVERY int32: 'Lib.runeCells r' goes in behind what the row holds; the world: one new block (the bytes as the call's variadic argument), then what 'append' does to the row. (LAID: no walk: one application.) -/
theorem Tryz.utf8_AppendRune_row (B : Nat) (v : Value) (n : Nat) (xs : List Value) (r : Int) (hr0 : -2147483648 ≤ r) (hr1 : r ≤ 2147483647) (w : World) (hown : w.ownsRowF B 5 1 v n xs) (hlen : n + 4 ≤ 140737488355328) (hBw : B ≤ w.heap.size) :
    Calls Tryz.prog 118 #[v, .int .i32 r] w fun e w' => ∃ v', e = .returned v' ∧ w'.ownsRowF B 5 1 v' (n + (Lib.runeCells r).length) (xs ++ Lib.runeCells r) ∧ ∃ o, (w.alloc o).grownBy w' v.ownBlock := Any.utf8_AppendRune_row Tryz.lays242 (by kernel_rfl) B v n xs r hr0 hr1 w hown hlen hBw
def Tryz.lays197_ren : Go.Shelf.Ren := ⟨fun | 197 => 108 | 260 => 119 | n => n, fun | 9 => 9 | 21 => 21 | 3 => 3 | 4 => 4 | 5 => 5 | 105 => 122 | 119 => 154 | 0 => 0 | 46 => 155 | 139 => 158 | 138 => 157 | n => n, fun | 3 => 0 | 4 => 1 | n => n⟩
theorem Tryz.lays197 : Go.Proofs.Lays.n197 Tryz.prog Tryz.lays197_ren := {
  mixed := by kernel_rfl
  f197 := Tryz.func108.trans (congrArg some (by kernel_rfl))
  f260 := Tryz.func119.trans (congrArg some (by kernel_rfl))
  t0 := Tryz.underlying0
  a0 := Tryz.isAgg0
  z0 := Tryz.sizeOf0
  v0 := Tryz.zeroValue0
  t3 := Tryz.underlying3
  a3 := Tryz.isAgg3
  z3 := Tryz.sizeOf3
  v3 := Tryz.zeroValue3
  t4 := Tryz.underlying4
  a4 := Tryz.isAgg4
  z4 := Tryz.sizeOf4
  v4 := Tryz.zeroValue4
  t5 := Tryz.underlying5
  a5 := Tryz.isAgg5
  z5 := Tryz.sizeOf5
  v5 := Tryz.zeroValue5
  t9 := Tryz.underlying9
  a9 := Tryz.isAgg9
  z9 := Tryz.sizeOf9
  v9 := Tryz.zeroValue9
  t21 := Tryz.underlying21
  a21 := Tryz.isAgg21
  z21 := Tryz.sizeOf21
  v21 := Tryz.zeroValue21
  t46 := Tryz.underlying155
  a46 := Tryz.isAgg155
  z46 := Tryz.sizeOf155
  v46 := Tryz.zeroValue155
  t105 := Tryz.underlying122
  a105 := Tryz.isAgg122
  z105 := Tryz.sizeOf122
  v105 := Tryz.zeroValue122
  t119 := Tryz.underlying154
  a119 := Tryz.isAgg154
  z119 := Tryz.sizeOf154
  t138 := Tryz.underlying157
  a138 := Tryz.isAgg157
  z138 := Tryz.sizeOf157
  v138 := Tryz.zeroValue157
  t139 := Tryz.underlying158
  a139 := Tryz.isAgg158
  z139 := Tryz.sizeOf158
  v139 := Tryz.zeroValue158
  g3 := by kernel_rfl
  g4 := by kernel_rfl }
def Tryz.lays260_ren : Go.Shelf.Ren := ⟨fun | 260 => 119 | n => n, fun | 9 => 9 | 21 => 21 | 3 => 3 | 4 => 4 | 5 => 5 | 119 => 154 | 0 => 0 | 46 => 155 | 139 => 158 | 138 => 157 | n => n, fun | 3 => 0 | 4 => 1 | n => n⟩
theorem Tryz.lays260 : Go.Proofs.Lays.n260 Tryz.prog Tryz.lays260_ren := {
  mixed := by kernel_rfl
  f260 := Tryz.func119.trans (congrArg some (by kernel_rfl))
  t0 := Tryz.underlying0
  a0 := Tryz.isAgg0
  z0 := Tryz.sizeOf0
  v0 := Tryz.zeroValue0
  t3 := Tryz.underlying3
  a3 := Tryz.isAgg3
  z3 := Tryz.sizeOf3
  v3 := Tryz.zeroValue3
  t4 := Tryz.underlying4
  a4 := Tryz.isAgg4
  z4 := Tryz.sizeOf4
  v4 := Tryz.zeroValue4
  t5 := Tryz.underlying5
  a5 := Tryz.isAgg5
  z5 := Tryz.sizeOf5
  v5 := Tryz.zeroValue5
  t9 := Tryz.underlying9
  a9 := Tryz.isAgg9
  z9 := Tryz.sizeOf9
  v9 := Tryz.zeroValue9
  t21 := Tryz.underlying21
  a21 := Tryz.isAgg21
  z21 := Tryz.sizeOf21
  v21 := Tryz.zeroValue21
  t46 := Tryz.underlying155
  a46 := Tryz.isAgg155
  z46 := Tryz.sizeOf155
  v46 := Tryz.zeroValue155
  t119 := Tryz.underlying154
  a119 := Tryz.isAgg154
  z119 := Tryz.sizeOf154
  t138 := Tryz.underlying157
  a138 := Tryz.isAgg157
  z138 := Tryz.sizeOf157
  v138 := Tryz.zeroValue157
  t139 := Tryz.underlying158
  a139 := Tryz.isAgg158
  z139 := Tryz.sizeOf158
  v139 := Tryz.zeroValue158
  g3 := by kernel_rfl
  g4 := by kernel_rfl }
open Go.RowKit Go.Lib in
/-- **unicode/utf8.DecodeRuneInString AT EVERY STRING.** (LAID: no walk: one application.) -/
theorem Tryz.utf8_DecodeRuneInString (s : ByteArray) (w : World) (hT : Lib.Utf8Tabs 0 1 w) :
    Calls Tryz.prog 108 #[.string s] w fun e w' => e = .returned (.tuple #[.int .i32 (Lib.decodeGo s).1, .int .i64 (Lib.decodeGo s).2]) ∧ Below w.heap.size w w' := Any.utf8_DecodeRuneInString Tryz.lays197 s w hT
end Go.Proofs
end
section
namespace Go.Proofs.YtinmiekbhoemjaaGreatDoor.FoldForms
open Go.RowKit Go.Lib FoldP FoldInts Kit

set_option maxHeartbeats 1000000 in
theorem refRune_any (r : Int) (w : World) :
    Calls Tryz.prog 98 #[.int .i32 r] w (BoolRet (Lib.validRune r) w) := by
  go_enter Tryz.func98, Tryz.ntmps98
  go_wp2
  all_goals go_ret
  all_goals go_light
  all_goals refine ⟨ret_bool ?_, rfl⟩
  · unfold Lib.validRune; rw [Bool.eq_iff_iff]; simp; omega
  · unfold Lib.validRune; rw [Bool.eq_iff_iff]; simp; omega
  · unfold Lib.validRune; rw [Bool.eq_iff_iff]; simp; omega
  · unfold Lib.validRune; rw [Bool.eq_iff_iff]; simp; omega

/-- New memory is a row of bytes; nothing older has changed. -/
def RowNew (l : List UInt8) (w : World) (e : Ending) (w' : World) : Prop :=
  ∃ v, e = .returned v ∧ w'.ownsRow w.heap.size 5 1 v l.length (byteCells l) ∧ Below w.heap.size w w'

theorem rowNew_mk (w : World) (l : List UInt8) (C : Array Value) (n : Nat) (hn : n = l.length) (hC : C = (byteCells l).toArray) (hl : l.length ≤ 4) :
    RowNew l w (.returned (.slice (some ⟨w.heap.size, 0, none⟩) n n)) (w.alloc (.cells C 5)) := by
  subst hn; subst hC
  exact ⟨_, rfl, own_new w _ _ l (Nat.le_refl _) (by unfold maxLen; omega), (Below.refl _ _).alloc (Nat.le_refl _) _⟩

theorem cells_form (r : Int) : (byteCells (encodeRune r)).toArray = ((encodeRuneZ r).map (Value.int .u8)).toArray := by
  rw [byteCells_encodeRune]; rfl

set_option maxHeartbeats 1000000 in
theorem refForm_any (r : Int) (w : World) (h : Lib.validRune r = true) :
    Calls Tryz.prog 99 #[.int .i32 r] w (RowNew (encodeRune r) w) := by
  have hv : (0 ≤ r ∧ r < 0xD800) ∨ (0xDFFF < r ∧ r ≤ 0x10FFFF) := of_decide_eq_true h
  clear h
  have b0 : 0 ≤ r := by omega
  have b1 : r ≤ 0x10FFFF := by omega
  have hl : (encodeRune r).length ≤ 4 := by have := encodeRuneZ_length r; simp [encodeRune]; omega
  have HV := Lib.hid hv; clear hv
  have HL := Lib.hid hl; clear hl
  by_cases h1 : r < 128
  · go_enter Tryz.func99, Tryz.ntmps99
    go_wp2
    go_ret
    go_light
    refine rowNew_mk w _ _ _ ?_ ?_ HL.out
    · rw [encodeRune, encodeRuneZ_one (by omega) (by omega)]; rfl
    · rw [cells_form, encodeRuneZ_one (by omega) (by omega)]; rfl
  by_cases h2 : r < 2048
  · go_enter Tryz.func99, Tryz.ntmps99
    go_wp2
    go_ret
    go_light
    refine rowNew_mk w _ _ _ ?_ ?_ HL.out
    · rw [encodeRune, encodeRuneZ_two (by omega) (by omega)]; rfl
    · rw [cells_form, encodeRuneZ_two (by omega) (by omega)]; rfl
  by_cases h3 : r < 65536
  · go_enter Tryz.func99, Tryz.ntmps99
    go_wp2
    go_ret
    go_light
    refine rowNew_mk w _ _ _ ?_ ?_ HL.out
    · rw [encodeRune, encodeRuneZ_three (by have := HV.out; omega)]; rfl
    · rw [cells_form, encodeRuneZ_three (by have := HV.out; omega)]; rfl
  · go_enter Tryz.func99, Tryz.ntmps99
    go_wp2
    go_ret
    go_light
    refine rowNew_mk w _ _ _ ?_ ?_ HL.out
    · rw [encodeRune, encodeRuneZ_four (by omega) (by omega)]; rfl
    · rw [cells_form, encodeRuneZ_four (by omega) (by omega)]; rfl
end Go.Proofs.YtinmiekbhoemjaaGreatDoor.FoldForms
end
section
namespace Go.Proofs.YtinmiekbhoemjaaGreatDoor.FoldPut
open Go.RowKit Go.Lib FoldP FoldInts Kit FoldForms

end Go.Proofs.YtinmiekbhoemjaaGreatDoor.FoldPut
end
section
set_option linter.unusedVariables false
namespace Go.Proofs.YtinmiekbhoemjaaGreatDoor.FoldNext
open Go.RowKit Go.Lib FoldP FoldInts Kit FoldForms

theorem below_drewN {B : Nat} {a w : World} (h : Below B a w) (n : Nat) : Below B a (w.drewN n) := ⟨h.os, h.tape, h.output, h.size, h.block⟩

/-- The decoder's two tables, as their texts lay them. -/
def Tabs (w : World) : Prop := Lib.Utf8Tabs 0 1 w ∧ 2 ≤ w.heap.size
theorem Tabs.below {B : Nat} {w w' : World} (h : Tabs w) (hb : Below B w w') (hB : 2 ≤ B) : Tabs w' :=
  ⟨⟨fun c hc => (hb.cell (p := ⟨0, c, none⟩) (Nat.lt_of_lt_of_le (by show (_ : Nat) < 2; dsimp only; omega) hB)).trans (h.1.1 c hc),
    fun i hi => ⟨(hb.cell (p := ⟨1, 2 * i, none⟩) (Nat.lt_of_lt_of_le (by show (_ : Nat) < 2; dsimp only; omega) hB)).trans (h.1.2 i hi).1, (hb.cell (p := ⟨1, 2 * i + 1, none⟩) (Nat.lt_of_lt_of_le (by show (_ : Nat) < 2; dsimp only; omega) hB)).trans (h.1.2 i hi).2⟩⟩,
   Nat.le_trans h.2 hb.size⟩
theorem Tabs.next {w w' : World} (h : Tabs w) (hb : Below w.heap.size w w') : Tabs w' := h.below hb h.2

def NextRet (l : List UInt8) (at_ : Int) (w : World) (e : Ending) (w' : World) : Prop :=
  e = .returned (.tuple #[.int .i32 (nextF l at_).1, .int .i64 (nextF l at_).2]) ∧ Below w.heap.size w w'

theorem next_out {l : List UInt8} {at_ : Int} (h : ¬ (0 ≤ at_ ∧ at_ < l.length)) : nextF l at_ = (0, 0) := if_neg h
theorem next_in (l : List UInt8) (k : Nat) (h : k < l.length) : nextF l k = (((decodeL (l.drop k)).1 : Int), ((decodeL (l.drop k)).2 : Int)) := by
  unfold nextF; rw [if_pos (by omega), Int.toNat_natCast]

theorem next_mk_out {l : List UInt8} {at_ : Int} {w w' : World} (h : ¬ (0 ≤ at_ ∧ at_ < l.length)) (hb : Below w.heap.size w w') : NextRet l at_ w (.returned (.tuple #[.int .i32 0, .int .i64 0])) w' :=
  ⟨by rw [next_out h], hb⟩

theorem decodeGo_drop (s : ByteArray) (k : Nat) (h : k < s.size) : Lib.decodeGo (s.extract k s.size) = decodeL (s.data.toList.drop k) := by
  unfold decodeGo
  have hsz : (s.extract k s.size).size = s.size - k := by simp
  rw [if_neg (by omega)]
  have := decodeL_drop (s.extract k s.size) 0
  rw [← this, List.drop_zero, extract_data, List.take_of_length_le (by simp)]

set_option maxHeartbeats 1000000 in
theorem next_any (s : ByteArray) (at_ : Int) (w : World) (hs : s.size ≤ maxLen) (hT : Tabs w) :
    Calls Tryz.prog 88 #[.string s, .int .i64 at_] w (NextRet s.data.toList at_ w) := by
  unfold maxLen at hs
  have hlen : s.data.toList.length = s.size := by simp
  have HL := Lib.hid hlen; clear hlen
  have HT := Lib.hid hT; clear hT
  by_cases h0 : at_ < 0
  · go_enter Tryz.func88, Tryz.ntmps88
    go_wp2_with fail
    go_ret2
    exact next_mk_out (by omega) (Below.refl _ _)
  · obtain ⟨k, rfl⟩ : ∃ k : Nat, at_ = k := ⟨at_.toNat, by omega⟩
    by_cases h1 : k < s.size
    · go_enter Tryz.func88, Tryz.ntmps88
      go_wp2_with fail
      refine (Tryz.utf8_DecodeRuneInString _ _ HT.out.1).mono ?_
      rintro e w1 ⟨rfl, hb⟩
      have HB := Lib.hid hb; clear hb
      go_wp2_with fail
      go_ret2
      refine ⟨?_, HB.out⟩
      rw [next_in _ k (by rw [HL.out]; exact h1), ← decodeGo_drop s k h1]
      rfl
    · go_enter Tryz.func88, Tryz.ntmps88
      go_wp2_with fail
      go_ret2
      exact next_mk_out (by rw [HL.out]; omega) (Below.refl _ _)
end Go.Proofs.YtinmiekbhoemjaaGreatDoor.FoldNext
end
