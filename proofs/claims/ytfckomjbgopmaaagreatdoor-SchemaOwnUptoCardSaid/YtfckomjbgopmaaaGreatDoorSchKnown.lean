/- Contract: what the document names of the sample schema holds. -/
import Derived.Test.YtfckomjbgopmaaaGreatDoorPack46
import Derived.Test.YtfckomjbgopmaaaGreatDoorSchCellsW
import Derived.Test.YtfckomjbgopmaaaGreatDoorSchBack
import Derived.Test.YtfckomjbgopmaaaGreatDoorSchToks
import Derived.Test.YtfckomjbgopmaaaGreatDoorPack8
set_option linter.unusedVariables false
namespace Go.Proofs.YtfckomjbgopmaaaGreatDoor.Sch
open Go.RowKit Words Tree SchP Kit Owned AnaP

theorem ecell_at {w : World} {S : Nat → Prop} {g : Nat} (f t : ByteArray) (hb : Blk w g 68 #[.string f, .string t, .slice none 0 0]) (hS : S g) : T.At bare w S (entriesT [⟨f, t, []⟩]) (.slice (some ⟨g, 0, none⟩) 1 1) :=
  row_lit (xs := [(⟨f, t, []⟩ : ET)]) (vs := [.string f, .string t, .slice none 0 0] ++ []) ecells_len hb hS (by simp) (AtL.append (ecells_mk (e := ⟨f, t, []⟩) (nums_none rfl)) (by simp [T.AtL]))
theorem ecell_two {w : World} {S : Nat → Prop} {g : Nat} (f t f' t' : ByteArray) (hb : Blk w g 68 #[.string f, .string t, .slice none 0 0, .string f', .string t', .slice none 0 0]) (hS : S g) : T.At bare w S (entriesT [⟨f, t, []⟩, ⟨f', t', []⟩]) (.slice (some ⟨g, 0, none⟩) 2 2) :=
  row_lit (xs := [(⟨f, t, []⟩ : ET), ⟨f', t', []⟩]) (vs := [.string f, .string t, .slice none 0 0] ++ ([.string f', .string t', .slice none 0 0] ++ [])) ecells_len hb hS (by simp) (AtL.append (ecells_mk (e := ⟨f, t, []⟩) (nums_none rfl)) (AtL.append (ecells_mk (e := ⟨f', t', []⟩) (nums_none rfl)) (by simp [T.AtL])))
theorem eok (f t : ByteArray) (hf : f.size ≤ 100) (ht : t.size ≤ 100) : EOk ⟨f, t, []⟩ := ⟨by show f.size ≤ _; omega, by show t.size ≤ _; omega, ⟨by simp, fun z hz => by cases hz⟩⟩
/-- What Cells answers of it. -/
def CodeRet (n : Int) (w : World) (e : Ending) (w' : World) : Prop := e = .returned (.int .i64 n) ∧ Below w.heap.size w w'
set_option maxRecDepth 100000 in
set_option maxHeartbeats 4000000 in
theorem of_any (x : Value) (d : List ET) (n : Int) (w : World) (hx : T.At bare w (fun g => g < w.heap.size) (entriesT d) x) (hd : d.length ≤ 64) (he : ∀ e ∈ d, EOk e) (hes : ∀ e ∈ d, e.text.size < 4294967281) (hT : FoldNext.Tabs w) (hO : OrdLib.OTabs w) (hc : cellsF decO runO sampleL d = .error n) :
    Calls Tryz.prog 55 #[x] w (CodeRet n w) := by
  have HC := Lib.hid (fun (u : Value) (W : World) (hu : T.At bare W (fun g => g < W.heap.size) (fieldsT sampleL) u) (hW : Below w.heap.size w W) => cells_any u x sampleL d W hu (by decide) kn_ok (At.below hx hW (fun g hg => Nat.lt_of_lt_of_le hg hW.size)) (by omega) he hes (hT.next hW) (hO.next hW))
  rw [hc] at HC
  obtain ⟨D, cD, rfl, _, _⟩ := at_slice hx
  clear hx he hes hT hO hc
  go_enter Tryz.func55, Tryz.ntmps55
  go_wp2_with fail
  refine (sample_any w).mono ?_
  rintro e W1 ⟨v, rfl, hv, hb⟩
  have HB1 := Lib.hid hb
  have HC1 := Lib.hid (HC.out v W1 (At.keep (fun _ _ => rfl) (fun g h => h.2.lt) hv) hb)
  obtain ⟨A, cA, rfl, _, _⟩ := at_slice hv
  clear hv hb
  go_wp2_with fail
  refine HC1.out.mono ?_
  rintro e W2 ⟨hb2, rfl⟩
  have HB2 := Lib.hid (HB1.out.trans (hb2.mono HB1.out.size))
  clear hb2
  go_wp2_with fail
  go_ret
  exact ⟨rfl, HB2.out⟩
theorem off_of_add (a : Addr) (n : Nat) : (a.add n).off = a.off + n := by unfold Addr.add; split <;> simp_all
def eT : ET := ⟨⟨#[116]⟩, ⟨#[84, 104, 101, 32, 102, 111, 120]⟩, []⟩
def eD : ET := ⟨⟨#[100]⟩, ⟨#[49, 46, 53]⟩, []⟩
set_option maxRecDepth 100000 in
set_option maxHeartbeats 100000000 in
theorem known_any (w : World) (hT : FoldNext.Tabs w) (hO : OrdLib.OTabs w) : Calls Tryz.prog 24 #[] w (AnsB true w) := by
  have HTT := Lib.hid hT; have HOT := Lib.hid hO
  clear hT hO
  go_enter Tryz.func24, Tryz.ntmps24
  go_wp2_with fail
  refine (sample_any w).mono ?_
  rintro e W1 ⟨u1, rfl, hu1, hb1⟩
  have HB1 := Lib.hid hb1
  obtain ⟨O2, hO2⟩ : ∃ O2 : Obj, O2 = .cells #[.string ⟨#[116]⟩, .string ⟨#[84, 104, 101, 32, 102, 111, 120]⟩, .slice none 0 0, .string ⟨#[100]⟩, .string ⟨#[49, 46, 53]⟩, .slice none 0 0] 68 := ⟨_, rfl⟩
  have h2 : Below W1.heap.size W1 (W1.alloc O2) := (Below.refl _ _).alloc (Nat.le_refl _) _
  have HQ1 := Lib.hid (cells_any u1 (.slice (some ⟨W1.heap.size, 0, none⟩) 2 2) sampleL [eT, eD] (W1.alloc O2) (At.keep (fun p hp => h2.cell hp.2.lt) (fun g hg => Nat.lt_of_lt_of_le hg.2.lt h2.size) hu1) (by decide) kn_ok
    (ecell_two _ _ _ _ (by rw [hO2]; exact Blk.new W1 _ _) (by rw [hO2]; simp)) (by decide) (by intro e he; simp only [List.mem_cons, List.not_mem_nil, or_false] at he; rcases he with rfl | rfl <;> exact eok _ _ (by decide) (by decide)) (by intro e he; simp only [List.mem_cons, List.not_mem_nil, or_false] at he; rcases he with rfl | rfl <;> decide)
    (HTT.out.next (hb1.trans (h2.mono hb1.size))) (HOT.out.next (hb1.trans (h2.mono hb1.size))))
  rw [show cellsF decO runO sampleL [eT, eD] = _ from kn_cells] at HQ1
  have HB2 := Lib.hid (hb1.trans (h2.mono hb1.size))
  obtain ⟨A1, a1, rfl, _, _⟩ := at_slice hu1
  subst hO2
  clear hb1 h2 hu1
  go_wp2_with fail
  refine HQ1.out.mono ?_
  rintro e W3 ⟨hb3, vc, rfl, hv3⟩
  have HB3 := Lib.hid (HB2.out.trans (hb3.mono HB2.out.size))
  have HV3 := Lib.hid (At.keep (S' := fun g => g < W3.heap.size) (fun _ _ => rfl) (fun g hg => hg.2.lt) hv3)
  clear hb3 HQ1 HB2 HB1
  obtain ⟨C, cc, rfl, _, _⟩ := at_slice hv3
  clear hv3
  go_wp2_with fail
  refine (sample_any W3).mono ?_
  rintro e W4 ⟨u4, rfl, hu4, hb4⟩
  have hz4 := hb4.size
  have h5 : Below W4.heap.size W4 (W4.alloc (.cells #[.int .i64 150] 2)) := (Below.refl _ _).alloc (Nat.le_refl _) _
  have h6 : Below W4.heap.size W4 ((W4.alloc (.cells #[.int .i64 150] 2)).alloc (.cells #[.int .i64 3, .string ⟨#[]⟩, .slice (some ⟨W4.heap.size, 0, none⟩) 1 1] 57)) := h5.alloc h5.size _
  have hbB : Blk ((W4.alloc (.cells #[.int .i64 150] 2)).alloc (.cells #[.int .i64 3, .string ⟨#[]⟩, .slice (some ⟨W4.heap.size, 0, none⟩) 1 1] 57)) (W4.heap.size + 1) 57 #[.int .i64 3, .string ⟨#[]⟩, .slice (some ⟨W4.heap.size, 0, none⟩) 1 1] := by
    have := Blk.new (W4.alloc (.cells #[.int .i64 150] 2)) 57 #[.int .i64 3, .string ⟨#[]⟩, .slice (some ⟨W4.heap.size, 0, none⟩) 1 1]
    simpa using this
  have HQ2 := Lib.hid (back_any u4 (.slice (some ⟨W4.heap.size + 1, 0, none⟩) 1 1) sampleL [(⟨3, ⟨#[]⟩, [150]⟩ : CT)] ((W4.alloc (.cells #[.int .i64 150] 2)).alloc (.cells #[.int .i64 3, .string ⟨#[]⟩, .slice (some ⟨W4.heap.size, 0, none⟩) 1 1] 57)) (At.keep (fun p hp => h6.cell hp.2.lt) (fun g hg => Nat.lt_of_lt_of_le hg.2.lt h6.size) hu4) (by decide) kn_ok
    (row_lit (xs := [(⟨3, ⟨#[]⟩, [150]⟩ : CT)]) (vs := [.int .i64 3, .string ⟨#[]⟩, .slice (some ⟨W4.heap.size, 0, none⟩) 1 1] ++ []) ccells_len hbB (by simp) (by simp) (AtL.append (ccells_mk (c := ⟨3, ⟨#[]⟩, [150]⟩) (nums_lit (l := [150]) ((Blk.new W4 2 #[.int .i64 150]).alloc _) (by simp; omega) (by simp))) (by simp [T.AtL]))) (by decide)
    (by intro c hc; simp only [List.mem_cons, List.not_mem_nil, or_false] at hc; subst hc; exact ⟨by unfold I64; decide, by decide, ⟨by decide, fun z hz => by simp at hz; subst hz; unfold I64; omega⟩⟩) (OrdLib.pow_next HOT.out.pow (HB3.out.trans ((hb4.trans (h6.mono hz4)).mono HB3.out.size))))
  rw [kn_back] at HQ2
  have HB6 := Lib.hid (hb4.trans (h6.mono hz4))
  obtain ⟨A4, a4, rfl, _, _⟩ := at_slice hu4
  clear hb4 h5 h6 hbB hu4
  go_wp2_with fail
  refine HQ2.out.mono ?_
  rintro e W7 ⟨hb7, vd, rfl, hv7⟩
  have HB7 := Lib.hid (HB6.out.trans (hb7.mono HB6.out.size))
  have HV7 := Lib.hid (At.keep (S' := fun g => g < W7.heap.size) (fun _ _ => rfl) (fun g hg => hg.2.lt) hv7)
  obtain ⟨D, dd, rfl, _, _⟩ := at_slice hv7
  clear hb7 HQ2 HB6 hv7 hz4
  go_upto_region 3 with fail
  have hb8 : Below W7.heap.size W7 (W7.alloc (.cells #[.slice D 1 dd] 30)) := (Below.refl _ _).alloc (Nat.le_refl _) _
  have BD := Lib.hid (Blk.new W7 30 #[.slice D 1 dd])
  generalize W7.alloc (.cells #[.slice D 1 dd] 30) = W8 at *
  have HB8 := Lib.hid (HB7.out.trans (hb8.mono HB7.out.size))
  have HV8 := Lib.hid (At.below (S' := fun g => g < W8.heap.size) HV7.out hb8 (fun g hg => Nat.lt_of_lt_of_le hg hb8.size))
  have hz8 : W7.heap.size < W8.heap.size := BD.out.lt
  clear hb8 HV7
  go_wp2_with fail
  refine (sample_any W8).mono ?_
  rintro e W9 ⟨u9, rfl, hu9, hb9⟩
  have hz9 := hb9.size
  have h10 : Below W9.heap.size W9 (W9.alloc (.cells #[.int .i64 0, .string ⟨#[97, 32, 98]⟩, .slice none 0 0, .int .i64 0, .string ⟨#[99]⟩, .slice none 0 0] 57)) := (Below.refl _ _).alloc (Nat.le_refl _) _
  have HQ3 := Lib.hid (toksW_any u9 (.slice (some ⟨W9.heap.size, 0, none⟩) 2 2) sampleL 0 [(⟨0, ⟨#[97, 32, 98]⟩, []⟩ : CT), ⟨0, ⟨#[99]⟩, []⟩] (W9.alloc (.cells #[.int .i64 0, .string ⟨#[97, 32, 98]⟩, .slice none 0 0, .int .i64 0, .string ⟨#[99]⟩, .slice none 0 0] 57)) (At.keep (fun p hp => h10.cell hp.2.lt) (fun g hg => Nat.lt_of_lt_of_le hg.2.lt h10.size) hu9) (by decide) kn_ok
    (row_lit (xs := [(⟨0, ⟨#[97, 32, 98]⟩, []⟩ : CT), ⟨0, ⟨#[99]⟩, []⟩]) (vs := [.int .i64 0, .string ⟨#[97, 32, 98]⟩, .slice none 0 0] ++ ([.int .i64 0, .string ⟨#[99]⟩, .slice none 0 0] ++ [])) ccells_len (Blk.new W9 57 _) (by simp) (by simp) (AtL.append (ccells_mk (c := ⟨0, ⟨#[97, 32, 98]⟩, []⟩) (nums_none rfl)) (AtL.append (ccells_mk (c := ⟨0, ⟨#[99]⟩, []⟩) (nums_none rfl)) (by simp [T.AtL])))) (by simp)
    (by intro c hc; simp only [List.mem_cons, List.not_mem_nil, or_false] at hc; rcases hc with rfl | rfl <;> exact ⟨by unfold I64; decide, by decide, ⟨by decide, fun z hz => by cases hz⟩⟩) (HTT.out.next ((HB3.out.trans (HB8.out.mono HB3.out.size)).trans ((hb9.trans (h10.mono hz9)).mono (by have := HB3.out.size; have := HB8.out.size; omega)))))
  obtain ⟨t0, t1, t2, hts, hp2⟩ := kn_toks
  rw [hts] at HQ3
  have HB10 := Lib.hid (hb9.trans (h10.mono hz9))
  obtain ⟨A9, a9, rfl, _, _⟩ := at_slice hu9
  clear hb9 h10 hu9 hts
  go_wp2_with fail
  refine HQ3.out.mono ?_
  rintro e W11 ⟨tq, tc, rfl, hown, hb11⟩
  have HB11 := Lib.hid (HB10.out.trans (hb11.mono HB10.out.size))
  have HO := Lib.hid hown
  obtain ⟨_, _, hh, hrd⟩ := Ana.reads_slice hown
  injection hh with h1 _ _
  subst h1
  obtain ⟨td, rfl, htb, -, c1, -, -⟩ := Ana.reads_tok (ts := [t0, t1, t2]) hrd rfl (k := 2) (by simp)
  have hln3 : [t0, t1, t2].length = 3 := rfl
  have HTK : Hid (W11.cell? ⟨(td.add 8).block, (td.add 8).off + 1, none⟩ = some (.int .i64 102)) := Lib.hid (by rw [← hp2]; exact c1)
  have HW := Lib.hid (HB8.out.trans (HB11.out.mono HB8.out.size))
  have HBW := Lib.hid (HB3.out.trans (HW.out.mono HB3.out.size))
  have HBD : Hid (Blk W11 W7.heap.size 30 #[.slice D 1 dd]) := Lib.hid (BD.out.below HB11.out hz8)
  have HV11 := Lib.hid (At.below (S' := fun g => g < W11.heap.size) HV8.out HB11.out (fun g hg => Nat.lt_of_lt_of_le hg HB11.out.size))
  have HC11 := Lib.hid (At.below (S' := fun g => g < W11.heap.size) HV3.out HW.out (fun g hg => Nat.lt_of_lt_of_le hg HW.out.size))
  clear hown hb11 hrd c1 hp2 HQ3 HB10 HV8 HV3 BD hz9
  obtain ⟨_, _, hh, _, _, eD⟩ := at_row ecells_len HV11.out
  injection hh with h1 _ _
  subst h1
  obtain ⟨dd1, us, rfl, hdb, au, lu, cu⟩ := eD 0 (by simp)
  obtain ⟨vc, rfl, gc⟩ := at_ecells au
  obtain ⟨-, x1, -⟩ := three cu
  obtain ⟨_, _, hh, _, _, eC⟩ := at_row ccells_len HC11.out
  injection hh with h1 _ _
  subst h1
  obtain ⟨cd1, us, rfl, hcb, au2, lu2, cu2⟩ := eC 1 (by simp)
  obtain ⟨vn, rfl, gn⟩ := at_ccells au2
  obtain ⟨X, xc, rfl, _, _⟩ := at_slice gn
  obtain ⟨-, -, x2⟩ := three cu2
  have had0 : dd1.add (0 * 3) = dd1 := by rw [Nat.zero_mul]; unfold Addr.add; cases dd1; split <;> simp_all
  rw [had0] at x1
  have HX1 : Hid (W11.cell? ⟨dd1.block, dd1.off + 1, none⟩ = some (.string ⟨#[49, 46, 53, 48]⟩)) := Lib.hid x1
  have HX2 : Hid (W11.cell? ⟨(cd1.add 3).block, (cd1.add 3).off + 2, none⟩ = some (.slice X 1 xc)) := Lib.hid x2
  have HGN := Lib.hid gn
  have hcb' : (cd1.add 3).block < W11.heap.size := by rw [block_of_add]; exact hcb
  have htb' : (td.add 8).block < W11.heap.size := by rw [block_of_add]; exact htb
  clear eD eC au lu cu gc au2 lu2 cu2 gn x1 x2 had0
  go_wp2_with fail
  refine (sample_any W11).mono ?_
  rintro e W12 ⟨u12, rfl, hu12, hb12⟩
  have HQ4 := Lib.hid (checkS_any u12 sampleL W12 (At.keep (fun _ _ => rfl) (fun g hg => hg.2.lt) hu12) (by decide) kn_ok)
  rw [kn_check, show errS true = 0 from rfl] at HQ4
  have HB12 := Lib.hid hb12
  obtain ⟨A12, a12, rfl, _, _⟩ := at_slice hu12
  clear hb12 hu12
  go_wp2_with fail
  refine HQ4.out.mono ?_
  rintro e W13 ⟨rfl, hb13⟩
  have HB13 := Lib.hid (HB12.out.trans (hb13.mono HB12.out.size))
  have HQ5 := Lib.hid (checkS_any (.slice none 0 0) [] W13 (by simp only [fieldsT, rowT, T.At]; exact ⟨none, 0, [], rfl, by simp [bare], by unfold maxLen; omega, rfl, fun hn => by simp [bare] at hn, by simp [T.AtL]⟩) (by simp) (by simp))
  rw [kn_none, show errS false = 80 from rfl] at HQ5
  clear hb13 HB12 HQ4
  go_wp2_with fail
  refine HQ5.out.mono ?_
  rintro e W14 ⟨rfl, hb14⟩
  have HB14 := Lib.hid (HB13.out.trans (hb14.mono HB13.out.size))
  have y0 : W14.cell? ⟨W7.heap.size, 0, none⟩ = some (.slice (some dd1) 1 _) := (HBD.out.below HB14.out HBD.out.lt).cell 0
  have y1 : W14.cell? ⟨dd1.block, dd1.off + 1, none⟩ = some (.string ⟨#[49, 46, 53, 48]⟩) := (HB14.out.cell (p := ⟨dd1.block, dd1.off + 1, none⟩) hdb).trans HX1.out
  have y2 : W14.cell? ⟨(td.add 8).block, (td.add 8).off + 1, none⟩ = some (.int .i64 102) := (HB14.out.cell (p := ⟨(td.add 8).block, (td.add 8).off + 1, none⟩) htb').trans HTK.out
  have y3 : W14.cell? ⟨td.block, td.off + 8 + 1, none⟩ = some (.int .i64 102) := by
    rw [block_of_add, off_of_add] at y2; exact y2
  clear hb14 HB13 HQ5 y2
  go_upto_region 6 with fail
  have BK := Lib.hid (Blk.new W14 68 #[.string ⟨#[107]⟩, .string ⟨#[97]⟩, .slice none 0 0])
  go_upto_region 7 with fail
  have hb15 : Below W14.heap.size W14 (W14.alloc (.cells #[.string ⟨#[107]⟩, .string ⟨#[97]⟩, .slice none 0 0] 68)) := (Below.refl _ _).alloc (Nat.le_refl _) _
  generalize W14.alloc (.cells #[.string ⟨#[107]⟩, .string ⟨#[97]⟩, .slice none 0 0] 68) = W15 at *
  have HB15 := Lib.hid (HB14.out.trans (hb15.mono HB14.out.size))
  have hz15 : W14.heap.size < W15.heap.size := BK.out.lt
  have z4 : W15.cell? ⟨(cd1.add 3).block, (cd1.add 3).off + 2, none⟩ = some (.slice X 1 xc) := (HB15.out.cell (p := ⟨(cd1.add 3).block, (cd1.add 3).off + 2, none⟩) hcb').trans HX2.out
  have y4 : W15.cell? ⟨cd1.block, cd1.off + 3 + 2, none⟩ = some (.slice X 1 xc) := by
    rw [block_of_add, off_of_add] at z4; exact z4
  have h16 : Below W15.heap.size W15 (W15.alloc (.cells #[.int .i64 150] 2)) := (Below.refl _ _).alloc (Nat.le_refl _) _
  have HQ6 : Hid (Calls Tryz.prog 52 #[.slice X 1 xc, .slice (some ⟨W15.heap.size, 0, none⟩) 1 1] (W15.alloc (.cells #[.int .i64 150] 2)) (AnsB true (W15.alloc (.cells #[.int .i64 150] 2)))) := Lib.hid (by
    obtain ⟨_, _, hh, _, _, hr1⟩ := at_nums HGN.out
    injection hh with h1 _ h3
    subst h1 h3
    obtain ⟨_, _, hh, _, _, hr2⟩ := at_nums (B := (W15.alloc (.cells #[.int .i64 150] 2)).heap.size) (nums_lit (l := [150]) (k := .i64) (S := fun g => g < (W15.alloc (.cells #[.int .i64 150] 2)).heap.size) (Blk.new W15 2 #[.int .i64 150]) (by simp) (by simp))
    injection hh with h1 _ h3
    subst h1
    have hq := HB15.out.trans (h16.mono HB15.out.size)
    exact int64s_any X _ xc 1 [150] [150] _ ((hr1.below hq).more hq.size) hr2 (by decide) (by decide) true (by simp))
  have HW15 := Lib.hid (HBW.out.trans (HB15.out.mono HBW.out.size))
  have HB16 := Lib.hid h16
  clear h16 hb15 z4 y0 y1 y3
  go_wp2_with fail
  refine HQ6.out.mono ?_
  rintro e W17 ⟨rfl, hb17⟩
  have HB17 : Hid (Below W15.heap.size W15 W17) := Lib.hid (HB16.out.trans (hb17.mono HB16.out.size))
  clear hb17 y4 HQ6 HB16
  have h17 : Below W17.heap.size W17 (W17.alloc (.cells #[.string ⟨#[120]⟩, .string ⟨#[]⟩, .slice none 0 0] 68)) := (Below.refl _ _).alloc (Nat.le_refl _) _
  have HA17 := Lib.hid (HB17.out.trans (h17.mono HB17.out.size))
  have HT17 := Lib.hid (HW15.out.trans (HA17.out.mono HW15.out.size))
  have HQ17 := Lib.hid (of_any (.slice (some ⟨W17.heap.size, 0, none⟩) 1 1) [(⟨⟨#[120]⟩, ⟨#[]⟩, []⟩ : ET)] 81 (W17.alloc (.cells #[.string ⟨#[120]⟩, .string ⟨#[]⟩, .slice none 0 0] 68)) (ecell_at _ _ (Blk.new W17 _ _) (by simp)) (by simp) (by intro e he; simp only [List.mem_cons, List.not_mem_nil, or_false] at he; subst he; exact eok _ _ (by decide) (by decide)) (by intro e he; simp only [List.mem_cons, List.not_mem_nil, or_false] at he; subst he; decide) (HTT.out.next HT17.out) (HOT.out.next HT17.out) kn_81)
  clear h17
  go_wp2_with fail
  refine HQ17.out.mono ?_
  rintro e W18 ⟨rfl, hb17⟩
  have HB18 : Hid (Below W15.heap.size W15 W18) := Lib.hid (HA17.out.trans (hb17.mono HA17.out.size))
  clear hb17 HQ17 HT17 HA17
  have h18 : Below W18.heap.size W18 (W18.alloc (.cells #[.string ⟨#[110]⟩, .string ⟨#[53]⟩, .slice none 0 0] 68)) := (Below.refl _ _).alloc (Nat.le_refl _) _
  have HA18 := Lib.hid (HB18.out.trans (h18.mono HB18.out.size))
  have HT18 := Lib.hid (HW15.out.trans (HA18.out.mono HW15.out.size))
  have HQ18 := Lib.hid (of_any (.slice (some ⟨W18.heap.size, 0, none⟩) 1 1) [(⟨⟨#[110]⟩, ⟨#[53]⟩, []⟩ : ET)] 82 (W18.alloc (.cells #[.string ⟨#[110]⟩, .string ⟨#[53]⟩, .slice none 0 0] 68)) (ecell_at _ _ (Blk.new W18 _ _) (by simp)) (by simp) (by intro e he; simp only [List.mem_cons, List.not_mem_nil, or_false] at he; subst he; exact eok _ _ (by decide) (by decide)) (by intro e he; simp only [List.mem_cons, List.not_mem_nil, or_false] at he; subst he; decide) (HTT.out.next HT18.out) (HOT.out.next HT18.out) kn_82)
  clear h18
  go_wp2_with fail
  refine HQ18.out.mono ?_
  rintro e W19 ⟨rfl, hb18⟩
  have HB19 : Hid (Below W15.heap.size W15 W19) := Lib.hid (HA18.out.trans (hb18.mono HA18.out.size))
  clear hb18 HQ18 HT18 HA18
  have h19 : Below W19.heap.size W19 (W19.alloc (.cells #[.string ⟨#[107]⟩, .string ⟨#[97]⟩, .slice none 0 0, .string ⟨#[107]⟩, .string ⟨#[97]⟩, .slice none 0 0] 68)) := (Below.refl _ _).alloc (Nat.le_refl _) _
  have HA19 := Lib.hid (HB19.out.trans (h19.mono HB19.out.size))
  have HT19 := Lib.hid (HW15.out.trans (HA19.out.mono HW15.out.size))
  have HQ19 := Lib.hid (of_any (.slice (some ⟨W19.heap.size, 0, none⟩) 2 2) [(⟨⟨#[107]⟩, ⟨#[97]⟩, []⟩ : ET), (⟨⟨#[107]⟩, ⟨#[97]⟩, []⟩ : ET)] 84 (W19.alloc (.cells #[.string ⟨#[107]⟩, .string ⟨#[97]⟩, .slice none 0 0, .string ⟨#[107]⟩, .string ⟨#[97]⟩, .slice none 0 0] 68)) (ecell_two _ _ _ _ (Blk.new W19 _ _) (by simp)) (by simp) (by intro e he; simp only [List.mem_cons, List.not_mem_nil, or_false, or_self] at he; subst he; exact eok _ _ (by decide) (by decide)) (by intro e he; simp only [List.mem_cons, List.not_mem_nil, or_false, or_self] at he; subst he; decide) (HTT.out.next HT19.out) (HOT.out.next HT19.out) kn_84)
  have k0 : W19.cell? ⟨W14.heap.size, 0, none⟩ = some (.string ⟨#[107]⟩) := (BK.out.below HB19.out hz15).cell 0
  have k1 : W19.cell? ⟨W14.heap.size, 1, none⟩ = some (.string ⟨#[97]⟩) := (BK.out.below HB19.out hz15).cell 1
  have k2 : W19.cell? ⟨W14.heap.size, 2, none⟩ = some (.slice none 0 0) := (BK.out.below HB19.out hz15).cell 2
  clear h19
  go_wp2_with fail
  refine HQ19.out.mono ?_
  rintro e W20 ⟨rfl, hb19⟩
  have HB20 : Hid (Below W15.heap.size W15 W20) := Lib.hid (HA19.out.trans (hb19.mono HA19.out.size))
  clear hb19 HQ19 HT19 HA19 k0 k1 k2
  have h20 : Below W20.heap.size W20 (W20.alloc (.cells #[.string ⟨#[100]⟩, .string ⟨#[49, 46, 50, 51, 52]⟩, .slice none 0 0] 68)) := (Below.refl _ _).alloc (Nat.le_refl _) _
  have HA20 := Lib.hid (HB20.out.trans (h20.mono HB20.out.size))
  have HT20 := Lib.hid (HW15.out.trans (HA20.out.mono HW15.out.size))
  have HQ20 := Lib.hid (of_any (.slice (some ⟨W20.heap.size, 0, none⟩) 1 1) [(⟨⟨#[100]⟩, ⟨#[49, 46, 50, 51, 52]⟩, []⟩ : ET)] 83 (W20.alloc (.cells #[.string ⟨#[100]⟩, .string ⟨#[49, 46, 50, 51, 52]⟩, .slice none 0 0] 68)) (ecell_at _ _ (Blk.new W20 _ _) (by simp)) (by simp) (by intro e he; simp only [List.mem_cons, List.not_mem_nil, or_false] at he; subst he; exact eok _ _ (by decide) (by decide)) (by intro e he; simp only [List.mem_cons, List.not_mem_nil, or_false] at he; subst he; decide) (HTT.out.next HT20.out) (HOT.out.next HT20.out) kn_83)
  clear h20
  go_wp2_with fail
  refine HQ20.out.mono ?_
  rintro e W21 ⟨rfl, hb20⟩
  have HB21 : Hid (Below W15.heap.size W15 W21) := Lib.hid (HA20.out.trans (hb20.mono HA20.out.size))
  clear hb20 HQ20 HT20 HA20
  go_wp2_with fail
  go_ret
  exact ⟨rfl, HW15.out.trans (HB21.out.mono HW15.out.size)⟩
end Go.Proofs.YtfckomjbgopmaaaGreatDoor.Sch
