/- Contracts: 'runs': a text cut into runs, at each pair of functions that it is handed. -/
import Derived.Test.YtinmiekbhoemjaaGreatDoorPack27
import Derived.Laws.EntriesVeiled
import Derived.Outline
set_option linter.unusedVariables false
namespace Go.Proofs.YtinmiekbhoemjaaGreatDoor.Ana
open Go.RowKit Go.Lib FoldP FoldInts Kit FoldForms FoldNext FoldIter AnaP Words Owned Tree Range

attribute [local go_sem] Oper.semAt_some

/-- A row of tokens of the call's own. -/
def OwnToks (ts : List TokD) (w : World) (e : Ending) (w' : World) : Prop := ∃ v, e = .returned v ∧ w'.ownsRow w.heap.size 117 4 v ts.length (tokCells ts) ∧ Below w.heap.size w w'

set_option maxRecDepth 100000 in
set_option maxHeartbeats 4000000 in
theorem runs_solid_in (s : ByteArray) (w : World) (hs : s.size ≤ 1099511627776) (hT : Tabs w) :
    CallsIn Fence.wide 6 Tryz.prog 95 #[.string s, .func (.func 93) #[] #[], .func (.func 93) #[] #[]] w (OwnToks (tokOf s (runIx solidF solidF (runeL s.data.toList) 0 none)) w) := by
  obtain ⟨R, hR⟩ : ∃ R, runIx solidF solidF (runeL s.data.toList) 0 none = R := ⟨_, rfl⟩
  rw [hR]
  have HR := Lib.hid hR; clear hR
  have HT := Lib.hid hT; clear hT
  have HM : Hid (∀ (r : Int) (W : World), Below w.heap.size w W → Calls Tryz.prog 93 #[.int .i32 r] W (PureB (solidF r) W)) := Lib.hid (fun r W _ => solid_any r W)
  have HB : Hid (∀ (r : Int) (W : World), Below w.heap.size w W → Calls Tryz.prog 93 #[.int .i32 r] W (PureB (solidF r) W)) := Lib.hid (fun r W _ => solid_any r W)
  have hmf : ∀ (fn : Fn) (first cap : Array Value) (w : World), (Instr.makeFunc fn first cap).run Tryz.prog w = .ok (.func fn first cap) w := fun _ _ _ _ => rfl
  refine callsIn_of_wp_marks Tryz.func95 rfl trivial ?_ rfl
  simp only [Tryz.ntmps95, List.size_toArray, List.length_cons, List.length_nil, Nat.reduceAdd, Nat.reduceSub, Array.replicate_succ, Array.replicate_zero, List.push_toArray, List.append_toArray, List.nil_append, List.cons_append]
  gi_wp2_with fail
  refine ⟨trivial, ?_⟩
  refine (runes_in _ _ _).mono ?_
  rintro e w' ⟨rfl, rfl⟩
  gi_wp2_with fail
  simp only [Nat.add_assoc, Nat.reduceAdd]
  have HI0 := Lib.hid (runI_start (mv := .func (.func 93) #[] #[]) (bv := .func (.func 93) #[] #[]) (w := w) HR.out)
  have hsz : (((((((w.alloc (.cells #[.string s] 9)).alloc (.cells #[.func (.func 93) #[] #[]] 125)).alloc (.cells #[.func (.func 93) #[] #[]] 125)).alloc (.cells #[.slice none 0 0] 83)).alloc (.cells #[.int .i64 (-1)] 3)).alloc (.cells #[.func (.func 115) #[] #[.pointer (some ⟨w.heap.size + 4, 0, none⟩), .pointer (some ⟨w.heap.size + 3, 0, none⟩), .pointer (some ⟨w.heap.size, 0, none⟩)]] 148)).alloc (.cells #[.string s] 9)).heap.size = w.heap.size + 7 := by simp
  have hlen : s.data.toList.length = s.size := by simp
  obtain ⟨W0, hW0⟩ : ∃ W0, (((((((w.alloc (.cells #[.string s] 9)).alloc (.cells #[.func (.func 93) #[] #[]] 125)).alloc (.cells #[.func (.func 93) #[] #[]] 125)).alloc (.cells #[.slice none 0 0] 83)).alloc (.cells #[.int .i64 (-1)] 3)).alloc (.cells #[.func (.func 115) #[] #[.pointer (some ⟨w.heap.size + 4, 0, none⟩), .pointer (some ⟨w.heap.size + 3, 0, none⟩), .pointer (some ⟨w.heap.size, 0, none⟩)]] 148)).alloc (.cells #[.string s] 9)) = W0 := ⟨_, rfl⟩
  rw [hW0] at hsz HI0 ⊢
  have hT0 : Tabs W0 := HT.out.next HI0.out.below
  have h2 : 2 ≤ w.heap.size := HT.out.2
  clear hW0
  refine wpIn_gives rfl (by omega) (gf := 116) (lb := #[.pointer (some ⟨w.heap.size + 6, 0, none⟩)]) rfl trivial (enters_of Tryz.func116 (by kernel_rfl) rfl)
    (runes_gives (w.heap.size + 6) s (by omega) W0 HI0.out.iter hT0) KpR.trans (kpR_b (by omega) (by omega)) (Below.refl _ _) (fun _ => rfl)
    (RunI2 solidF solidF s (.func (.func 93) #[] #[]) (.func (.func 93) #[] #[]) w R) (runI_own _ _ _ _ _ _ _ _ (by omega)) ⟨[], none, HI0.out⟩
    (fun x => { tmps := #[.string s, .func (.func 93) #[] #[], .func (.func 93) #[] #[], .pointer (some ⟨w.heap.size, 0, none⟩), .pointer (some ⟨w.heap.size + 1, 0, none⟩), .pointer (some ⟨w.heap.size + 2, 0, none⟩), .slice none 0 0, .pointer (some ⟨w.heap.size + 3, 0, none⟩), .pointer (some ⟨w.heap.size + 4, 0, none⟩), .pointer (some ⟨w.heap.size + 5, 0, none⟩),
      .int .i64 (x.1 : Int), .int .i32 x.2, .func (.func 115) #[] #[.pointer (some ⟨w.heap.size + 4, 0, none⟩), .pointer (some ⟨w.heap.size + 3, 0, none⟩), .pointer (some ⟨w.heap.size, 0, none⟩)], .string s, .func (.func 116) #[] #[.pointer (some ⟨w.heap.size + 6, 0, none⟩)], .int .i64 (x.1 : Int), .int .i32 x.2, undef, undef, undef, undef, undef, undef, undef, undef, undef, undef, undef, undef, undef, undef, undef, undef, undef, undef, undef, undef, undef, undef], defers := [] }) ?assign ?body ?done
  case assign =>
    intro l x W K hK
    dsimp only [encP]
    gi_wp2
    exact hK
  case body =>
    rintro l0 pre x W hnx ⟨cuts, fr, hI⟩
    obtain ⟨hj, hx1, hx2, hd⟩ := nx_get hnx
    have hnl := nR_le s.data.toList
    rw [hlen] at hnl hx2
    obtain ⟨p, r⟩ := x
    dsimp only at hx1 hx2 hd ⊢
    have cM : W.cell? ⟨w.heap.size + 1, 0, none⟩ = some (.func (.func 93) #[] #[]) := hI.mayB.cell 0
    have cB : W.cell? ⟨w.heap.size + 2, 0, none⟩ = some (.func (.func 93) #[] #[]) := hI.begB.cell 0
    have cE : W.cell? ⟨w.heap.size + 5, 0, none⟩ = some (.func (.func 115) #[] #[.pointer (some ⟨w.heap.size + 4, 0, none⟩), .pointer (some ⟨w.heap.size + 3, 0, none⟩), .pointer (some ⟨w.heap.size, 0, none⟩)]) := hI.endB.cell 0
    have cF := hI.frm.cell
    have cN := hI.frm.frozen
    have hcl := hI.len
    obtain ⟨v, hv1, hv2⟩ := hI.out
    have HI := Lib.hid hI; have HD := Lib.hid hd; have HV1 := Lib.hid hv1; have HV2 := Lib.hid hv2
    have HPJ := Lib.hid hx1
    have htl := tokOf_len s cuts
    have htl2 : (tokOf s cuts).length ≤ 1099511627776 := by omega
    have HLN : Hid ((pre ++ [((p, r) : Nat × Int)]).length = pre.length + 1) := Lib.hid (by simp)
    clear hI hd hv1 hv2 hx1 htl hlen
    cases hm : solidF r with
    | false =>
      have HC : Hid (∀ W, Below w.heap.size w W → Calls Tryz.prog 93 #[.int .i32 r] W (PureB false W)) := Lib.hid (fun W h => by rw [← hm]; exact HM.out r W h)
      have HMR := Lib.hid hm
      clear hm
      cases fr with
      | none =>
        have HE : Hid (cuts ++ runIx solidF solidF ((runeL s.data.toList).drop (pre.length + 1)) (pre.length + 1) none = R) := Lib.hid (by have := HI.out.all; rw [HD.out] at this; unfold runIx at this; rw [HMR.out] at this; exact this)
        dsimp only [frV] at cF
        gi_wp2_with fail
        refine ⟨trivial, ?_⟩
        refine CallsIn.inRound l0 (callsIn_wide.2 (HC.out W HI.out.below)) |>.mono ?_
        rintro e w' ⟨rfl, rfl⟩
        gi_wp2_with fail
        refine ⟨trivial, ?_⟩
        refine CallsIn.inRound l0 (callsIn_wide.2 (end_none w.heap.size (w.heap.size + 4) (w.heap.size + 3) w.heap.size (p : Int) (tokOf s cuts) v W (by omega) HI.out.frm HV1.out HV2.out)) |>.mono ?_
        rintro e w3 ⟨rfl, he⟩
        have HW := Lib.hid he
        clear he cM cB cE cF cN
        gi_wp2_with fail
        have hI3 := HI.out.ended HW.out (j' := pre.length + 1) (by omega) HE.out
        exact ⟨HW.out.others.from _, HI.out.kp hI3 HW.out.below h2, cuts, none, by rw [HLN.out]; exact hI3⟩
      | some a =>
        have ha := HI.out.from_ a rfl
        have hpa : posAt s.data.toList a ≤ p := by rw [HPJ.out]; exact posAt_mono _ _ _ (by omega) (by omega)
        have HE : Hid ((cuts ++ [(a, pre.length)]) ++ runIx solidF solidF ((runeL s.data.toList).drop (pre.length + 1)) (pre.length + 1) none = R) := Lib.hid (by have := HI.out.all; rw [HD.out] at this; unfold runIx at this; rw [HMR.out] at this; simpa using this)
        dsimp only [frV] at cF
        gi_wp2_with fail
        refine ⟨trivial, ?_⟩
        refine CallsIn.inRound l0 (callsIn_wide.2 (HC.out W HI.out.below)) |>.mono ?_
        rintro e w' ⟨rfl, rfl⟩
        gi_wp2_with fail
        refine ⟨trivial, ?_⟩
        refine CallsIn.inRound l0 (callsIn_wide.2 (end_some w.heap.size (w.heap.size + 4) (w.heap.size + 3) w.heap.size (posAt s.data.toList a) p s (tokOf s cuts) v W (by omega) (by omega) hpa (by omega) hs htl2 HI.out.frm HV1.out HI.out.txt HV2.out)) |>.mono ?_
        rintro e w3 ⟨rfl, he⟩
        rw [tok_snoc HPJ.out] at he
        have HW := Lib.hid he
        clear he cM cB cE cF cN
        gi_wp2_with fail
        have hI3 := HI.out.ended HW.out (j' := pre.length + 1) (by simp; omega) HE.out
        exact ⟨HW.out.others.from _, HI.out.kp hI3 HW.out.below h2, _, none, by rw [HLN.out]; exact hI3⟩
    | true =>
      have HC : Hid (∀ W, Below w.heap.size w W → Calls Tryz.prog 93 #[.int .i32 r] W (PureB true W)) := Lib.hid (fun W h => by rw [← hm]; exact HM.out r W h)
      have HMR := Lib.hid hm
      clear hm
      cases fr with
      | some a =>
        have HE : Hid (cuts ++ runIx solidF solidF ((runeL s.data.toList).drop (pre.length + 1)) (pre.length + 1) (some a) = R) := Lib.hid (by have := HI.out.all; rw [HD.out] at this; unfold runIx at this; rw [HMR.out] at this; exact this)
        dsimp only [frV] at cF
        have hneg : decide ((posAt s.data.toList a : Int) < 0) = false := by rw [decide_eq_false_iff_not]; omega
        gi_wp2_with fail
        refine ⟨trivial, ?_⟩
        refine CallsIn.inRound l0 (callsIn_wide.2 (HC.out W HI.out.below)) |>.mono ?_
        rintro e w' ⟨rfl, rfl⟩
        gi_wp2_with fail
        refine ⟨fun f e => (by cases e), ?_⟩
        gi_wp2_with fail
        have hI3 := HI.out.stays HE.out
        exact ⟨KeepsFrom.refl _ _, HI.out.kp hI3 (Below.refl _ _) h2, _, _, by rw [HLN.out]; exact hI3⟩
      | none =>
        dsimp only [frV] at cF
        cases hb : solidF r with
        | true =>
          have HC2 : Hid (∀ W, Below w.heap.size w W → Calls Tryz.prog 93 #[.int .i32 r] W (PureB true W)) := Lib.hid (fun W h => by rw [← hb]; exact HB.out r W h)
          have HE : Hid (cuts ++ runIx solidF solidF ((runeL s.data.toList).drop (pre.length + 1)) (pre.length + 1) (some pre.length) = R) := Lib.hid (by have := HI.out.all; rw [HD.out] at this; unfold runIx at this; rw [HMR.out] at this; (try rw [hb] at this); first | exact this | cases hb.symm.trans HMR.out)
          clear hb
          gi_wp2_with fail
          refine ⟨trivial, ?_⟩
          refine CallsIn.inRound l0 (callsIn_wide.2 (HC.out W HI.out.below)) |>.mono ?_
          rintro e w' ⟨rfl, rfl⟩
          gi_wp2_with fail
          refine ⟨trivial, ?_⟩
          refine CallsIn.inRound l0 (callsIn_wide.2 (HC2.out W HI.out.below)) |>.mono ?_
          rintro e w' ⟨rfl, rfl⟩
          gi_wp2_with fail
          have hI3 := HI.out.begun HE.out
          rw [← HPJ.out] at hI3
          exact ⟨(KeepsOthers.setCell _ _ _).from _, HI.out.kp hI3 ((Below.refl _ _).setCell (p := ⟨w.heap.size + 4, 0, none⟩) (by dsimp only; omega) _) h2, _, _, by rw [HLN.out]; exact hI3⟩
        | false =>
          have HC2 : Hid (∀ W, Below w.heap.size w W → Calls Tryz.prog 93 #[.int .i32 r] W (PureB false W)) := Lib.hid (fun W h => by rw [← hb]; exact HB.out r W h)
          have HE : Hid (cuts ++ runIx solidF solidF ((runeL s.data.toList).drop (pre.length + 1)) (pre.length + 1) none = R) := Lib.hid (by have := HI.out.all; rw [HD.out] at this; unfold runIx at this; rw [HMR.out] at this; (try rw [hb] at this); first | exact this | cases hb.symm.trans HMR.out)
          clear hb
          gi_wp2_with fail
          refine ⟨trivial, ?_⟩
          refine CallsIn.inRound l0 (callsIn_wide.2 (HC.out W HI.out.below)) |>.mono ?_
          rintro e w' ⟨rfl, rfl⟩
          gi_wp2_with fail
          refine ⟨trivial, ?_⟩
          refine CallsIn.inRound l0 (callsIn_wide.2 (HC2.out W HI.out.below)) |>.mono ?_
          rintro e w' ⟨rfl, rfl⟩
          gi_wp2_with fail
          have hI3 := HI.out.stays HE.out
          exact ⟨KeepsFrom.refl _ _, HI.out.kp hI3 (Below.refl _ _) h2, _, _, by rw [HLN.out]; exact hI3⟩
  case done =>
    rintro D ys W hD rfl ⟨cuts, fr, hI⟩ hK
    have hjn : (runesL s.data.toList).length = nR s.data.toList := rfl
    have hnl := nR_le s.data.toList
    rw [hlen] at hnl
    rw [hjn] at hI
    have hcl := hI.len
    have htl := tokOf_len s cuts
    have htl2 : (tokOf s cuts).length ≤ 1099511627776 := by omega
    have hdr : (runeL s.data.toList).drop (nR s.data.toList) = [] := List.drop_eq_nil_of_le (by rw [runeL_len]; exact Nat.le_refl _)
    have cT : W.cell? ⟨w.heap.size, 0, none⟩ = some (.string s) := hI.txt.cell
    have cE : W.cell? ⟨w.heap.size + 5, 0, none⟩ = some (.func (.func 115) #[] #[.pointer (some ⟨w.heap.size + 4, 0, none⟩), .pointer (some ⟨w.heap.size + 3, 0, none⟩), .pointer (some ⟨w.heap.size, 0, none⟩)]) := hI.endB.cell 0
    obtain ⟨v, hv1, hv2⟩ := hI.out
    have HI := Lib.hid hI; have HV1 := Lib.hid hv1; have HV2 := Lib.hid hv2; have HDR := Lib.hid hdr
    have HKD := Lib.hid hK
    have HEND : Hid (posAt s.data.toList (nR s.data.toList) = s.size) := Lib.hid (by rw [posAt_end]; exact hlen)
    clear hI hv1 hv2 hdr htl hlen hjn hK
    have HC : Hid (Calls Tryz.prog 115 #[.int .i64 (s.size : Int), .pointer (some ⟨w.heap.size + 4, 0, none⟩), .pointer (some ⟨w.heap.size + 3, 0, none⟩), .pointer (some ⟨w.heap.size, 0, none⟩)] W (EndRet w.heap.size (w.heap.size + 4) (w.heap.size + 3) (tokOf s R) W)) := Lib.hid (by
      cases fr with
      | none =>
        have e := HI.out.all
        rw [HDR.out] at e
        simp only [runIx, List.append_nil] at e
        subst e
        exact end_none _ _ _ _ _ _ v W (by omega) HI.out.frm HV1.out HV2.out
      | some a =>
        have e := HI.out.all
        rw [HDR.out] at e
        simp only [runIx] at e
        subst e
        have ha := HI.out.from_ a rfl
        rw [← tok_snoc HEND.out.symm]
        exact end_some _ _ _ _ _ _ s _ v W (by omega) (by omega) (by rw [← HEND.out]; exact posAt_mono _ _ _ (by omega) (Nat.le_refl _)) (Nat.le_refl _) hs htl2 HI.out.frm HV1.out HI.out.txt HV2.out)
    gi_wp2_with fail
    refine ⟨trivial, ?_⟩
    refine (callsIn_wide.2 HC.out).mono ?_
    rintro e w3 ⟨rfl, he⟩
    obtain ⟨u, hu1, hu2⟩ := he.out
    have cU := hu1.cell
    have hK3 : w3.heap[D]? = some (.deferred (some [])) := he.others.same D _ HKD.out rfl
    have HW := Lib.hid he; have HU2 := Lib.hid hu2; have HK3 := Lib.hid hK3
    clear he hu1 hu2 hK3 cT cE
    gi_wp2_with fail
    refine ⟨by simp, .inl ⟨_, _, rfl, run_takeDeferred HK3.out, ?_⟩⟩
    refine ⟨_, results_tmp rfl _ _ _, ?_⟩
    exact ⟨_, rfl, ownsRow_putObj HU2.out _ HK3.out rfl, (HI.out.below.trans HW.out.below).trans (belowK_b (w := w) (Nat.le_refl _) _ D _ _ (by omega) HK3.out rfl rfl)⟩
theorem runs_solid (s : ByteArray) (w : World) (hs : s.size ≤ 1099511627776) (hT : Tabs w) : Calls Tryz.prog 95 #[.string s, .func (.func 93) #[] #[], .func (.func 93) #[] #[]] w (OwnToks (tokOf s (runIx solidF solidF (runeL s.data.toList) 0 none)) w) := (callsIn_wide.1 (runs_solid_in s  w hs hT ))

set_option maxRecDepth 100000 in
set_option maxHeartbeats 4000000 in
theorem runs_whole_in (s : ByteArray) (w : World) (hs : s.size ≤ 1099511627776) (hT : Tabs w) :
    CallsIn Fence.wide 6 Tryz.prog 95 #[.string s, .func (.func 96) #[] #[], .func (.func 97) #[] #[]] w (OwnToks (tokOf s (runIx anyF anyF (runeL s.data.toList) 0 none)) w) := by
  obtain ⟨R, hR⟩ : ∃ R, runIx anyF anyF (runeL s.data.toList) 0 none = R := ⟨_, rfl⟩
  rw [hR]
  have HR := Lib.hid hR; clear hR
  have HT := Lib.hid hT; clear hT
  have HM : Hid (∀ (r : Int) (W : World), Below w.heap.size w W → Calls Tryz.prog 96 #[.int .i32 r] W (PureB (anyF r) W)) := Lib.hid (fun r W _ => any2_any r W)
  have HB : Hid (∀ (r : Int) (W : World), Below w.heap.size w W → Calls Tryz.prog 97 #[.int .i32 r] W (PureB (anyF r) W)) := Lib.hid (fun r W _ => any3_any r W)
  have hmf : ∀ (fn : Fn) (first cap : Array Value) (w : World), (Instr.makeFunc fn first cap).run Tryz.prog w = .ok (.func fn first cap) w := fun _ _ _ _ => rfl
  refine callsIn_of_wp_marks Tryz.func95 rfl trivial ?_ rfl
  simp only [Tryz.ntmps95, List.size_toArray, List.length_cons, List.length_nil, Nat.reduceAdd, Nat.reduceSub, Array.replicate_succ, Array.replicate_zero, List.push_toArray, List.append_toArray, List.nil_append, List.cons_append]
  gi_wp2_with fail
  refine ⟨trivial, ?_⟩
  refine (runes_in _ _ _).mono ?_
  rintro e w' ⟨rfl, rfl⟩
  gi_wp2_with fail
  simp only [Nat.add_assoc, Nat.reduceAdd]
  have HI0 := Lib.hid (runI_start (mv := .func (.func 96) #[] #[]) (bv := .func (.func 97) #[] #[]) (w := w) HR.out)
  have hsz : (((((((w.alloc (.cells #[.string s] 9)).alloc (.cells #[.func (.func 96) #[] #[]] 125)).alloc (.cells #[.func (.func 97) #[] #[]] 125)).alloc (.cells #[.slice none 0 0] 83)).alloc (.cells #[.int .i64 (-1)] 3)).alloc (.cells #[.func (.func 115) #[] #[.pointer (some ⟨w.heap.size + 4, 0, none⟩), .pointer (some ⟨w.heap.size + 3, 0, none⟩), .pointer (some ⟨w.heap.size, 0, none⟩)]] 148)).alloc (.cells #[.string s] 9)).heap.size = w.heap.size + 7 := by simp
  have hlen : s.data.toList.length = s.size := by simp
  obtain ⟨W0, hW0⟩ : ∃ W0, (((((((w.alloc (.cells #[.string s] 9)).alloc (.cells #[.func (.func 96) #[] #[]] 125)).alloc (.cells #[.func (.func 97) #[] #[]] 125)).alloc (.cells #[.slice none 0 0] 83)).alloc (.cells #[.int .i64 (-1)] 3)).alloc (.cells #[.func (.func 115) #[] #[.pointer (some ⟨w.heap.size + 4, 0, none⟩), .pointer (some ⟨w.heap.size + 3, 0, none⟩), .pointer (some ⟨w.heap.size, 0, none⟩)]] 148)).alloc (.cells #[.string s] 9)) = W0 := ⟨_, rfl⟩
  rw [hW0] at hsz HI0 ⊢
  have hT0 : Tabs W0 := HT.out.next HI0.out.below
  have h2 : 2 ≤ w.heap.size := HT.out.2
  clear hW0
  refine wpIn_gives rfl (by omega) (gf := 116) (lb := #[.pointer (some ⟨w.heap.size + 6, 0, none⟩)]) rfl trivial (enters_of Tryz.func116 (by kernel_rfl) rfl)
    (runes_gives (w.heap.size + 6) s (by omega) W0 HI0.out.iter hT0) KpR.trans (kpR_b (by omega) (by omega)) (Below.refl _ _) (fun _ => rfl)
    (RunI2 anyF anyF s (.func (.func 96) #[] #[]) (.func (.func 97) #[] #[]) w R) (runI_own _ _ _ _ _ _ _ _ (by omega)) ⟨[], none, HI0.out⟩
    (fun x => { tmps := #[.string s, .func (.func 96) #[] #[], .func (.func 97) #[] #[], .pointer (some ⟨w.heap.size, 0, none⟩), .pointer (some ⟨w.heap.size + 1, 0, none⟩), .pointer (some ⟨w.heap.size + 2, 0, none⟩), .slice none 0 0, .pointer (some ⟨w.heap.size + 3, 0, none⟩), .pointer (some ⟨w.heap.size + 4, 0, none⟩), .pointer (some ⟨w.heap.size + 5, 0, none⟩),
      .int .i64 (x.1 : Int), .int .i32 x.2, .func (.func 115) #[] #[.pointer (some ⟨w.heap.size + 4, 0, none⟩), .pointer (some ⟨w.heap.size + 3, 0, none⟩), .pointer (some ⟨w.heap.size, 0, none⟩)], .string s, .func (.func 116) #[] #[.pointer (some ⟨w.heap.size + 6, 0, none⟩)], .int .i64 (x.1 : Int), .int .i32 x.2, undef, undef, undef, undef, undef, undef, undef, undef, undef, undef, undef, undef, undef, undef, undef, undef, undef, undef, undef, undef, undef, undef], defers := [] }) ?assign ?body ?done
  case assign =>
    intro l x W K hK
    dsimp only [encP]
    gi_wp2
    exact hK
  case body =>
    rintro l0 pre x W hnx ⟨cuts, fr, hI⟩
    obtain ⟨hj, hx1, hx2, hd⟩ := nx_get hnx
    have hnl := nR_le s.data.toList
    rw [hlen] at hnl hx2
    obtain ⟨p, r⟩ := x
    dsimp only at hx1 hx2 hd ⊢
    have cM : W.cell? ⟨w.heap.size + 1, 0, none⟩ = some (.func (.func 96) #[] #[]) := hI.mayB.cell 0
    have cB : W.cell? ⟨w.heap.size + 2, 0, none⟩ = some (.func (.func 97) #[] #[]) := hI.begB.cell 0
    have cE : W.cell? ⟨w.heap.size + 5, 0, none⟩ = some (.func (.func 115) #[] #[.pointer (some ⟨w.heap.size + 4, 0, none⟩), .pointer (some ⟨w.heap.size + 3, 0, none⟩), .pointer (some ⟨w.heap.size, 0, none⟩)]) := hI.endB.cell 0
    have cF := hI.frm.cell
    have cN := hI.frm.frozen
    have hcl := hI.len
    obtain ⟨v, hv1, hv2⟩ := hI.out
    have HI := Lib.hid hI; have HD := Lib.hid hd; have HV1 := Lib.hid hv1; have HV2 := Lib.hid hv2
    have HPJ := Lib.hid hx1
    have htl := tokOf_len s cuts
    have htl2 : (tokOf s cuts).length ≤ 1099511627776 := by omega
    have HLN : Hid ((pre ++ [((p, r) : Nat × Int)]).length = pre.length + 1) := Lib.hid (by simp)
    clear hI hd hv1 hv2 hx1 htl hlen
    cases hm : anyF r with
    | false =>
      have HC : Hid (∀ W, Below w.heap.size w W → Calls Tryz.prog 96 #[.int .i32 r] W (PureB false W)) := Lib.hid (fun W h => by rw [← hm]; exact HM.out r W h)
      have HMR := Lib.hid hm
      clear hm
      cases fr with
      | none =>
        have HE : Hid (cuts ++ runIx anyF anyF ((runeL s.data.toList).drop (pre.length + 1)) (pre.length + 1) none = R) := Lib.hid (by have := HI.out.all; rw [HD.out] at this; unfold runIx at this; rw [HMR.out] at this; exact this)
        dsimp only [frV] at cF
        gi_wp2_with fail
        refine ⟨trivial, ?_⟩
        refine CallsIn.inRound l0 (callsIn_wide.2 (HC.out W HI.out.below)) |>.mono ?_
        rintro e w' ⟨rfl, rfl⟩
        gi_wp2_with fail
        refine ⟨trivial, ?_⟩
        refine CallsIn.inRound l0 (callsIn_wide.2 (end_none w.heap.size (w.heap.size + 4) (w.heap.size + 3) w.heap.size (p : Int) (tokOf s cuts) v W (by omega) HI.out.frm HV1.out HV2.out)) |>.mono ?_
        rintro e w3 ⟨rfl, he⟩
        have HW := Lib.hid he
        clear he cM cB cE cF cN
        gi_wp2_with fail
        have hI3 := HI.out.ended HW.out (j' := pre.length + 1) (by omega) HE.out
        exact ⟨HW.out.others.from _, HI.out.kp hI3 HW.out.below h2, cuts, none, by rw [HLN.out]; exact hI3⟩
      | some a =>
        have ha := HI.out.from_ a rfl
        have hpa : posAt s.data.toList a ≤ p := by rw [HPJ.out]; exact posAt_mono _ _ _ (by omega) (by omega)
        have HE : Hid ((cuts ++ [(a, pre.length)]) ++ runIx anyF anyF ((runeL s.data.toList).drop (pre.length + 1)) (pre.length + 1) none = R) := Lib.hid (by have := HI.out.all; rw [HD.out] at this; unfold runIx at this; rw [HMR.out] at this; simpa using this)
        dsimp only [frV] at cF
        gi_wp2_with fail
        refine ⟨trivial, ?_⟩
        refine CallsIn.inRound l0 (callsIn_wide.2 (HC.out W HI.out.below)) |>.mono ?_
        rintro e w' ⟨rfl, rfl⟩
        gi_wp2_with fail
        refine ⟨trivial, ?_⟩
        refine CallsIn.inRound l0 (callsIn_wide.2 (end_some w.heap.size (w.heap.size + 4) (w.heap.size + 3) w.heap.size (posAt s.data.toList a) p s (tokOf s cuts) v W (by omega) (by omega) hpa (by omega) hs htl2 HI.out.frm HV1.out HI.out.txt HV2.out)) |>.mono ?_
        rintro e w3 ⟨rfl, he⟩
        rw [tok_snoc HPJ.out] at he
        have HW := Lib.hid he
        clear he cM cB cE cF cN
        gi_wp2_with fail
        have hI3 := HI.out.ended HW.out (j' := pre.length + 1) (by simp; omega) HE.out
        exact ⟨HW.out.others.from _, HI.out.kp hI3 HW.out.below h2, _, none, by rw [HLN.out]; exact hI3⟩
    | true =>
      have HC : Hid (∀ W, Below w.heap.size w W → Calls Tryz.prog 96 #[.int .i32 r] W (PureB true W)) := Lib.hid (fun W h => by rw [← hm]; exact HM.out r W h)
      have HMR := Lib.hid hm
      clear hm
      cases fr with
      | some a =>
        have HE : Hid (cuts ++ runIx anyF anyF ((runeL s.data.toList).drop (pre.length + 1)) (pre.length + 1) (some a) = R) := Lib.hid (by have := HI.out.all; rw [HD.out] at this; unfold runIx at this; rw [HMR.out] at this; exact this)
        dsimp only [frV] at cF
        have hneg : decide ((posAt s.data.toList a : Int) < 0) = false := by rw [decide_eq_false_iff_not]; omega
        gi_wp2_with fail
        refine ⟨trivial, ?_⟩
        refine CallsIn.inRound l0 (callsIn_wide.2 (HC.out W HI.out.below)) |>.mono ?_
        rintro e w' ⟨rfl, rfl⟩
        gi_wp2_with fail
        refine ⟨fun f e => (by cases e), ?_⟩
        gi_wp2_with fail
        have hI3 := HI.out.stays HE.out
        exact ⟨KeepsFrom.refl _ _, HI.out.kp hI3 (Below.refl _ _) h2, _, _, by rw [HLN.out]; exact hI3⟩
      | none =>
        dsimp only [frV] at cF
        cases hb : anyF r with
        | true =>
          have HC2 : Hid (∀ W, Below w.heap.size w W → Calls Tryz.prog 97 #[.int .i32 r] W (PureB true W)) := Lib.hid (fun W h => by rw [← hb]; exact HB.out r W h)
          have HE : Hid (cuts ++ runIx anyF anyF ((runeL s.data.toList).drop (pre.length + 1)) (pre.length + 1) (some pre.length) = R) := Lib.hid (by have := HI.out.all; rw [HD.out] at this; unfold runIx at this; rw [HMR.out] at this; (try rw [hb] at this); first | exact this | cases hb.symm.trans HMR.out)
          clear hb
          gi_wp2_with fail
          refine ⟨trivial, ?_⟩
          refine CallsIn.inRound l0 (callsIn_wide.2 (HC.out W HI.out.below)) |>.mono ?_
          rintro e w' ⟨rfl, rfl⟩
          gi_wp2_with fail
          refine ⟨trivial, ?_⟩
          refine CallsIn.inRound l0 (callsIn_wide.2 (HC2.out W HI.out.below)) |>.mono ?_
          rintro e w' ⟨rfl, rfl⟩
          gi_wp2_with fail
          have hI3 := HI.out.begun HE.out
          rw [← HPJ.out] at hI3
          exact ⟨(KeepsOthers.setCell _ _ _).from _, HI.out.kp hI3 ((Below.refl _ _).setCell (p := ⟨w.heap.size + 4, 0, none⟩) (by dsimp only; omega) _) h2, _, _, by rw [HLN.out]; exact hI3⟩
        | false =>
          have HC2 : Hid (∀ W, Below w.heap.size w W → Calls Tryz.prog 97 #[.int .i32 r] W (PureB false W)) := Lib.hid (fun W h => by rw [← hb]; exact HB.out r W h)
          have HE : Hid (cuts ++ runIx anyF anyF ((runeL s.data.toList).drop (pre.length + 1)) (pre.length + 1) none = R) := Lib.hid (by have := HI.out.all; rw [HD.out] at this; unfold runIx at this; rw [HMR.out] at this; (try rw [hb] at this); first | exact this | cases hb.symm.trans HMR.out)
          clear hb
          gi_wp2_with fail
          refine ⟨trivial, ?_⟩
          refine CallsIn.inRound l0 (callsIn_wide.2 (HC.out W HI.out.below)) |>.mono ?_
          rintro e w' ⟨rfl, rfl⟩
          gi_wp2_with fail
          refine ⟨trivial, ?_⟩
          refine CallsIn.inRound l0 (callsIn_wide.2 (HC2.out W HI.out.below)) |>.mono ?_
          rintro e w' ⟨rfl, rfl⟩
          gi_wp2_with fail
          have hI3 := HI.out.stays HE.out
          exact ⟨KeepsFrom.refl _ _, HI.out.kp hI3 (Below.refl _ _) h2, _, _, by rw [HLN.out]; exact hI3⟩
  case done =>
    rintro D ys W hD rfl ⟨cuts, fr, hI⟩ hK
    have hjn : (runesL s.data.toList).length = nR s.data.toList := rfl
    have hnl := nR_le s.data.toList
    rw [hlen] at hnl
    rw [hjn] at hI
    have hcl := hI.len
    have htl := tokOf_len s cuts
    have htl2 : (tokOf s cuts).length ≤ 1099511627776 := by omega
    have hdr : (runeL s.data.toList).drop (nR s.data.toList) = [] := List.drop_eq_nil_of_le (by rw [runeL_len]; exact Nat.le_refl _)
    have cT : W.cell? ⟨w.heap.size, 0, none⟩ = some (.string s) := hI.txt.cell
    have cE : W.cell? ⟨w.heap.size + 5, 0, none⟩ = some (.func (.func 115) #[] #[.pointer (some ⟨w.heap.size + 4, 0, none⟩), .pointer (some ⟨w.heap.size + 3, 0, none⟩), .pointer (some ⟨w.heap.size, 0, none⟩)]) := hI.endB.cell 0
    obtain ⟨v, hv1, hv2⟩ := hI.out
    have HI := Lib.hid hI; have HV1 := Lib.hid hv1; have HV2 := Lib.hid hv2; have HDR := Lib.hid hdr
    have HKD := Lib.hid hK
    have HEND : Hid (posAt s.data.toList (nR s.data.toList) = s.size) := Lib.hid (by rw [posAt_end]; exact hlen)
    clear hI hv1 hv2 hdr htl hlen hjn hK
    have HC : Hid (Calls Tryz.prog 115 #[.int .i64 (s.size : Int), .pointer (some ⟨w.heap.size + 4, 0, none⟩), .pointer (some ⟨w.heap.size + 3, 0, none⟩), .pointer (some ⟨w.heap.size, 0, none⟩)] W (EndRet w.heap.size (w.heap.size + 4) (w.heap.size + 3) (tokOf s R) W)) := Lib.hid (by
      cases fr with
      | none =>
        have e := HI.out.all
        rw [HDR.out] at e
        simp only [runIx, List.append_nil] at e
        subst e
        exact end_none _ _ _ _ _ _ v W (by omega) HI.out.frm HV1.out HV2.out
      | some a =>
        have e := HI.out.all
        rw [HDR.out] at e
        simp only [runIx] at e
        subst e
        have ha := HI.out.from_ a rfl
        rw [← tok_snoc HEND.out.symm]
        exact end_some _ _ _ _ _ _ s _ v W (by omega) (by omega) (by rw [← HEND.out]; exact posAt_mono _ _ _ (by omega) (Nat.le_refl _)) (Nat.le_refl _) hs htl2 HI.out.frm HV1.out HI.out.txt HV2.out)
    gi_wp2_with fail
    refine ⟨trivial, ?_⟩
    refine (callsIn_wide.2 HC.out).mono ?_
    rintro e w3 ⟨rfl, he⟩
    obtain ⟨u, hu1, hu2⟩ := he.out
    have cU := hu1.cell
    have hK3 : w3.heap[D]? = some (.deferred (some [])) := he.others.same D _ HKD.out rfl
    have HW := Lib.hid he; have HU2 := Lib.hid hu2; have HK3 := Lib.hid hK3
    clear he hu1 hu2 hK3 cT cE
    gi_wp2_with fail
    refine ⟨by simp, .inl ⟨_, _, rfl, run_takeDeferred HK3.out, ?_⟩⟩
    refine ⟨_, results_tmp rfl _ _ _, ?_⟩
    exact ⟨_, rfl, ownsRow_putObj HU2.out _ HK3.out rfl, (HI.out.below.trans HW.out.below).trans (belowK_b (w := w) (Nat.le_refl _) _ D _ _ (by omega) HK3.out rfl rfl)⟩
theorem runs_whole (s : ByteArray) (w : World) (hs : s.size ≤ 1099511627776) (hT : Tabs w) : Calls Tryz.prog 95 #[.string s, .func (.func 96) #[] #[], .func (.func 97) #[] #[]] w (OwnToks (tokOf s (runIx anyF anyF (runeL s.data.toList) 0 none)) w) := (callsIn_wide.1 (runs_whole_in s  w hs hT ))

set_option maxRecDepth 100000 in
set_option maxHeartbeats 4000000 in
theorem runs_words_in (s : ByteArray) (b : Nat) (w : World) (hs : s.size ≤ 1099511627776) (hT : Tabs w) (hb : b < w.heap.size) (hc : w.cell? ⟨b, 0, none⟩ = some (.func (.func 111) #[] #[])) :
    CallsIn Fence.wide 6 Tryz.prog 95 #[.string s, .func (.func 114) #[] #[.pointer (some ⟨b, 0, none⟩)], .func (.func 111) #[] #[]] w (OwnToks (tokOf s (runIx mayF wordF (runeL s.data.toList) 0 none)) w) := by
  obtain ⟨R, hR⟩ : ∃ R, runIx mayF wordF (runeL s.data.toList) 0 none = R := ⟨_, rfl⟩
  rw [hR]
  have HR := Lib.hid hR; clear hR
  have HT := Lib.hid hT; clear hT
  have HM : Hid (∀ (r : Int) (W : World), Below w.heap.size w W → Calls Tryz.prog 114 #[.int .i32 r, .pointer (some ⟨b, 0, none⟩)] W (PureB (mayF r) W)) := Lib.hid (fun r W h => may_any r b W ((h.cell (p := ⟨b, 0, none⟩) hb).trans hc))
  have HB : Hid (∀ (r : Int) (W : World), Below w.heap.size w W → Calls Tryz.prog 111 #[.int .i32 r] W (PureB (wordF r) W)) := Lib.hid (fun r W _ => word_any r W)
  have hmf : ∀ (fn : Fn) (first cap : Array Value) (w : World), (Instr.makeFunc fn first cap).run Tryz.prog w = .ok (.func fn first cap) w := fun _ _ _ _ => rfl
  have HBB := Lib.hid hb; clear hc hb
  refine callsIn_of_wp_marks Tryz.func95 rfl trivial ?_ rfl
  simp only [Tryz.ntmps95, List.size_toArray, List.length_cons, List.length_nil, Nat.reduceAdd, Nat.reduceSub, Array.replicate_succ, Array.replicate_zero, List.push_toArray, List.append_toArray, List.nil_append, List.cons_append]
  gi_wp2_with fail
  refine ⟨trivial, ?_⟩
  refine (runes_in _ _ _).mono ?_
  rintro e w' ⟨rfl, rfl⟩
  gi_wp2_with fail
  simp only [Nat.add_assoc, Nat.reduceAdd]
  have HI0 := Lib.hid (runI_start (mv := .func (.func 114) #[] #[.pointer (some ⟨b, 0, none⟩)]) (bv := .func (.func 111) #[] #[]) (w := w) HR.out)
  have hsz : (((((((w.alloc (.cells #[.string s] 9)).alloc (.cells #[.func (.func 114) #[] #[.pointer (some ⟨b, 0, none⟩)]] 125)).alloc (.cells #[.func (.func 111) #[] #[]] 125)).alloc (.cells #[.slice none 0 0] 83)).alloc (.cells #[.int .i64 (-1)] 3)).alloc (.cells #[.func (.func 115) #[] #[.pointer (some ⟨w.heap.size + 4, 0, none⟩), .pointer (some ⟨w.heap.size + 3, 0, none⟩), .pointer (some ⟨w.heap.size, 0, none⟩)]] 148)).alloc (.cells #[.string s] 9)).heap.size = w.heap.size + 7 := by simp
  have hlen : s.data.toList.length = s.size := by simp
  obtain ⟨W0, hW0⟩ : ∃ W0, (((((((w.alloc (.cells #[.string s] 9)).alloc (.cells #[.func (.func 114) #[] #[.pointer (some ⟨b, 0, none⟩)]] 125)).alloc (.cells #[.func (.func 111) #[] #[]] 125)).alloc (.cells #[.slice none 0 0] 83)).alloc (.cells #[.int .i64 (-1)] 3)).alloc (.cells #[.func (.func 115) #[] #[.pointer (some ⟨w.heap.size + 4, 0, none⟩), .pointer (some ⟨w.heap.size + 3, 0, none⟩), .pointer (some ⟨w.heap.size, 0, none⟩)]] 148)).alloc (.cells #[.string s] 9)) = W0 := ⟨_, rfl⟩
  rw [hW0] at hsz HI0 ⊢
  have hT0 : Tabs W0 := HT.out.next HI0.out.below
  have h2 : 2 ≤ w.heap.size := HT.out.2
  clear hW0
  refine wpIn_gives rfl (by omega) (gf := 116) (lb := #[.pointer (some ⟨w.heap.size + 6, 0, none⟩)]) rfl trivial (enters_of Tryz.func116 (by kernel_rfl) rfl)
    (runes_gives (w.heap.size + 6) s (by omega) W0 HI0.out.iter hT0) KpR.trans (kpR_b (by omega) (by omega)) (Below.refl _ _) (fun _ => rfl)
    (RunI2 mayF wordF s (.func (.func 114) #[] #[.pointer (some ⟨b, 0, none⟩)]) (.func (.func 111) #[] #[]) w R) (runI_own _ _ _ _ _ _ _ _ (by omega)) ⟨[], none, HI0.out⟩
    (fun x => { tmps := #[.string s, .func (.func 114) #[] #[.pointer (some ⟨b, 0, none⟩)], .func (.func 111) #[] #[], .pointer (some ⟨w.heap.size, 0, none⟩), .pointer (some ⟨w.heap.size + 1, 0, none⟩), .pointer (some ⟨w.heap.size + 2, 0, none⟩), .slice none 0 0, .pointer (some ⟨w.heap.size + 3, 0, none⟩), .pointer (some ⟨w.heap.size + 4, 0, none⟩), .pointer (some ⟨w.heap.size + 5, 0, none⟩),
      .int .i64 (x.1 : Int), .int .i32 x.2, .func (.func 115) #[] #[.pointer (some ⟨w.heap.size + 4, 0, none⟩), .pointer (some ⟨w.heap.size + 3, 0, none⟩), .pointer (some ⟨w.heap.size, 0, none⟩)], .string s, .func (.func 116) #[] #[.pointer (some ⟨w.heap.size + 6, 0, none⟩)], .int .i64 (x.1 : Int), .int .i32 x.2, undef, undef, undef, undef, undef, undef, undef, undef, undef, undef, undef, undef, undef, undef, undef, undef, undef, undef, undef, undef, undef, undef], defers := [] }) ?assign ?body ?done
  case assign =>
    intro l x W K hK
    dsimp only [encP]
    gi_wp2
    exact hK
  case body =>
    rintro l0 pre x W hnx ⟨cuts, fr, hI⟩
    obtain ⟨hj, hx1, hx2, hd⟩ := nx_get hnx
    have hnl := nR_le s.data.toList
    rw [hlen] at hnl hx2
    obtain ⟨p, r⟩ := x
    dsimp only at hx1 hx2 hd ⊢
    have cM : W.cell? ⟨w.heap.size + 1, 0, none⟩ = some (.func (.func 114) #[] #[.pointer (some ⟨b, 0, none⟩)]) := hI.mayB.cell 0
    have cB : W.cell? ⟨w.heap.size + 2, 0, none⟩ = some (.func (.func 111) #[] #[]) := hI.begB.cell 0
    have cE : W.cell? ⟨w.heap.size + 5, 0, none⟩ = some (.func (.func 115) #[] #[.pointer (some ⟨w.heap.size + 4, 0, none⟩), .pointer (some ⟨w.heap.size + 3, 0, none⟩), .pointer (some ⟨w.heap.size, 0, none⟩)]) := hI.endB.cell 0
    have cF := hI.frm.cell
    have cN := hI.frm.frozen
    have hcl := hI.len
    obtain ⟨v, hv1, hv2⟩ := hI.out
    have HI := Lib.hid hI; have HD := Lib.hid hd; have HV1 := Lib.hid hv1; have HV2 := Lib.hid hv2
    have HPJ := Lib.hid hx1
    have htl := tokOf_len s cuts
    have htl2 : (tokOf s cuts).length ≤ 1099511627776 := by omega
    have HLN : Hid ((pre ++ [((p, r) : Nat × Int)]).length = pre.length + 1) := Lib.hid (by simp)
    clear hI hd hv1 hv2 hx1 htl hlen
    cases hm : mayF r with
    | false =>
      have HC : Hid (∀ W, Below w.heap.size w W → Calls Tryz.prog 114 #[.int .i32 r, .pointer (some ⟨b, 0, none⟩)] W (PureB false W)) := Lib.hid (fun W h => by rw [← hm]; exact HM.out r W h)
      have HMR := Lib.hid hm
      clear hm
      cases fr with
      | none =>
        have HE : Hid (cuts ++ runIx mayF wordF ((runeL s.data.toList).drop (pre.length + 1)) (pre.length + 1) none = R) := Lib.hid (by have := HI.out.all; rw [HD.out] at this; unfold runIx at this; rw [HMR.out] at this; exact this)
        dsimp only [frV] at cF
        gi_wp2_with fail
        refine ⟨trivial, ?_⟩
        refine CallsIn.inRound l0 (callsIn_wide.2 (HC.out W HI.out.below)) |>.mono ?_
        rintro e w' ⟨rfl, rfl⟩
        gi_wp2_with fail
        refine ⟨trivial, ?_⟩
        refine CallsIn.inRound l0 (callsIn_wide.2 (end_none w.heap.size (w.heap.size + 4) (w.heap.size + 3) w.heap.size (p : Int) (tokOf s cuts) v W (by omega) HI.out.frm HV1.out HV2.out)) |>.mono ?_
        rintro e w3 ⟨rfl, he⟩
        have HW := Lib.hid he
        clear he cM cB cE cF cN
        gi_wp2_with fail
        have hI3 := HI.out.ended HW.out (j' := pre.length + 1) (by omega) HE.out
        exact ⟨HW.out.others.from _, HI.out.kp hI3 HW.out.below h2, cuts, none, by rw [HLN.out]; exact hI3⟩
      | some a =>
        have ha := HI.out.from_ a rfl
        have hpa : posAt s.data.toList a ≤ p := by rw [HPJ.out]; exact posAt_mono _ _ _ (by omega) (by omega)
        have HE : Hid ((cuts ++ [(a, pre.length)]) ++ runIx mayF wordF ((runeL s.data.toList).drop (pre.length + 1)) (pre.length + 1) none = R) := Lib.hid (by have := HI.out.all; rw [HD.out] at this; unfold runIx at this; rw [HMR.out] at this; simpa using this)
        dsimp only [frV] at cF
        gi_wp2_with fail
        refine ⟨trivial, ?_⟩
        refine CallsIn.inRound l0 (callsIn_wide.2 (HC.out W HI.out.below)) |>.mono ?_
        rintro e w' ⟨rfl, rfl⟩
        gi_wp2_with fail
        refine ⟨trivial, ?_⟩
        refine CallsIn.inRound l0 (callsIn_wide.2 (end_some w.heap.size (w.heap.size + 4) (w.heap.size + 3) w.heap.size (posAt s.data.toList a) p s (tokOf s cuts) v W (by omega) (by omega) hpa (by omega) hs htl2 HI.out.frm HV1.out HI.out.txt HV2.out)) |>.mono ?_
        rintro e w3 ⟨rfl, he⟩
        rw [tok_snoc HPJ.out] at he
        have HW := Lib.hid he
        clear he cM cB cE cF cN
        gi_wp2_with fail
        have hI3 := HI.out.ended HW.out (j' := pre.length + 1) (by simp; omega) HE.out
        exact ⟨HW.out.others.from _, HI.out.kp hI3 HW.out.below h2, _, none, by rw [HLN.out]; exact hI3⟩
    | true =>
      have HC : Hid (∀ W, Below w.heap.size w W → Calls Tryz.prog 114 #[.int .i32 r, .pointer (some ⟨b, 0, none⟩)] W (PureB true W)) := Lib.hid (fun W h => by rw [← hm]; exact HM.out r W h)
      have HMR := Lib.hid hm
      clear hm
      cases fr with
      | some a =>
        have HE : Hid (cuts ++ runIx mayF wordF ((runeL s.data.toList).drop (pre.length + 1)) (pre.length + 1) (some a) = R) := Lib.hid (by have := HI.out.all; rw [HD.out] at this; unfold runIx at this; rw [HMR.out] at this; exact this)
        dsimp only [frV] at cF
        have hneg : decide ((posAt s.data.toList a : Int) < 0) = false := by rw [decide_eq_false_iff_not]; omega
        gi_wp2_with fail
        refine ⟨trivial, ?_⟩
        refine CallsIn.inRound l0 (callsIn_wide.2 (HC.out W HI.out.below)) |>.mono ?_
        rintro e w' ⟨rfl, rfl⟩
        gi_wp2_with fail
        refine ⟨fun f e => (by cases e), ?_⟩
        gi_wp2_with fail
        have hI3 := HI.out.stays HE.out
        exact ⟨KeepsFrom.refl _ _, HI.out.kp hI3 (Below.refl _ _) h2, _, _, by rw [HLN.out]; exact hI3⟩
      | none =>
        dsimp only [frV] at cF
        cases hb : wordF r with
        | true =>
          have HC2 : Hid (∀ W, Below w.heap.size w W → Calls Tryz.prog 111 #[.int .i32 r] W (PureB true W)) := Lib.hid (fun W h => by rw [← hb]; exact HB.out r W h)
          have HE : Hid (cuts ++ runIx mayF wordF ((runeL s.data.toList).drop (pre.length + 1)) (pre.length + 1) (some pre.length) = R) := Lib.hid (by have := HI.out.all; rw [HD.out] at this; unfold runIx at this; rw [HMR.out] at this; (try rw [hb] at this); first | exact this | cases hb.symm.trans HMR.out)
          clear hb
          gi_wp2_with fail
          refine ⟨trivial, ?_⟩
          refine CallsIn.inRound l0 (callsIn_wide.2 (HC.out W HI.out.below)) |>.mono ?_
          rintro e w' ⟨rfl, rfl⟩
          gi_wp2_with fail
          refine ⟨trivial, ?_⟩
          refine CallsIn.inRound l0 (callsIn_wide.2 (HC2.out W HI.out.below)) |>.mono ?_
          rintro e w' ⟨rfl, rfl⟩
          gi_wp2_with fail
          have hI3 := HI.out.begun HE.out
          rw [← HPJ.out] at hI3
          exact ⟨(KeepsOthers.setCell _ _ _).from _, HI.out.kp hI3 ((Below.refl _ _).setCell (p := ⟨w.heap.size + 4, 0, none⟩) (by dsimp only; omega) _) h2, _, _, by rw [HLN.out]; exact hI3⟩
        | false =>
          have HC2 : Hid (∀ W, Below w.heap.size w W → Calls Tryz.prog 111 #[.int .i32 r] W (PureB false W)) := Lib.hid (fun W h => by rw [← hb]; exact HB.out r W h)
          have HE : Hid (cuts ++ runIx mayF wordF ((runeL s.data.toList).drop (pre.length + 1)) (pre.length + 1) none = R) := Lib.hid (by have := HI.out.all; rw [HD.out] at this; unfold runIx at this; rw [HMR.out] at this; (try rw [hb] at this); first | exact this | cases hb.symm.trans HMR.out)
          clear hb
          gi_wp2_with fail
          refine ⟨trivial, ?_⟩
          refine CallsIn.inRound l0 (callsIn_wide.2 (HC.out W HI.out.below)) |>.mono ?_
          rintro e w' ⟨rfl, rfl⟩
          gi_wp2_with fail
          refine ⟨trivial, ?_⟩
          refine CallsIn.inRound l0 (callsIn_wide.2 (HC2.out W HI.out.below)) |>.mono ?_
          rintro e w' ⟨rfl, rfl⟩
          gi_wp2_with fail
          have hI3 := HI.out.stays HE.out
          exact ⟨KeepsFrom.refl _ _, HI.out.kp hI3 (Below.refl _ _) h2, _, _, by rw [HLN.out]; exact hI3⟩
  case done =>
    rintro D ys W hD rfl ⟨cuts, fr, hI⟩ hK
    have hjn : (runesL s.data.toList).length = nR s.data.toList := rfl
    have hnl := nR_le s.data.toList
    rw [hlen] at hnl
    rw [hjn] at hI
    have hcl := hI.len
    have htl := tokOf_len s cuts
    have htl2 : (tokOf s cuts).length ≤ 1099511627776 := by omega
    have hdr : (runeL s.data.toList).drop (nR s.data.toList) = [] := List.drop_eq_nil_of_le (by rw [runeL_len]; exact Nat.le_refl _)
    have cT : W.cell? ⟨w.heap.size, 0, none⟩ = some (.string s) := hI.txt.cell
    have cE : W.cell? ⟨w.heap.size + 5, 0, none⟩ = some (.func (.func 115) #[] #[.pointer (some ⟨w.heap.size + 4, 0, none⟩), .pointer (some ⟨w.heap.size + 3, 0, none⟩), .pointer (some ⟨w.heap.size, 0, none⟩)]) := hI.endB.cell 0
    obtain ⟨v, hv1, hv2⟩ := hI.out
    have HI := Lib.hid hI; have HV1 := Lib.hid hv1; have HV2 := Lib.hid hv2; have HDR := Lib.hid hdr
    have HKD := Lib.hid hK
    have HEND : Hid (posAt s.data.toList (nR s.data.toList) = s.size) := Lib.hid (by rw [posAt_end]; exact hlen)
    clear hI hv1 hv2 hdr htl hlen hjn hK
    have HC : Hid (Calls Tryz.prog 115 #[.int .i64 (s.size : Int), .pointer (some ⟨w.heap.size + 4, 0, none⟩), .pointer (some ⟨w.heap.size + 3, 0, none⟩), .pointer (some ⟨w.heap.size, 0, none⟩)] W (EndRet w.heap.size (w.heap.size + 4) (w.heap.size + 3) (tokOf s R) W)) := Lib.hid (by
      cases fr with
      | none =>
        have e := HI.out.all
        rw [HDR.out] at e
        simp only [runIx, List.append_nil] at e
        subst e
        exact end_none _ _ _ _ _ _ v W (by omega) HI.out.frm HV1.out HV2.out
      | some a =>
        have e := HI.out.all
        rw [HDR.out] at e
        simp only [runIx] at e
        subst e
        have ha := HI.out.from_ a rfl
        rw [← tok_snoc HEND.out.symm]
        exact end_some _ _ _ _ _ _ s _ v W (by omega) (by omega) (by rw [← HEND.out]; exact posAt_mono _ _ _ (by omega) (Nat.le_refl _)) (Nat.le_refl _) hs htl2 HI.out.frm HV1.out HI.out.txt HV2.out)
    gi_wp2_with fail
    refine ⟨trivial, ?_⟩
    refine (callsIn_wide.2 HC.out).mono ?_
    rintro e w3 ⟨rfl, he⟩
    obtain ⟨u, hu1, hu2⟩ := he.out
    have cU := hu1.cell
    have hK3 : w3.heap[D]? = some (.deferred (some [])) := he.others.same D _ HKD.out rfl
    have HW := Lib.hid he; have HU2 := Lib.hid hu2; have HK3 := Lib.hid hK3
    clear he hu1 hu2 hK3 cT cE
    gi_wp2_with fail
    refine ⟨by simp, .inl ⟨_, _, rfl, run_takeDeferred HK3.out, ?_⟩⟩
    refine ⟨_, results_tmp rfl _ _ _, ?_⟩
    exact ⟨_, rfl, ownsRow_putObj HU2.out _ HK3.out rfl, (HI.out.below.trans HW.out.below).trans (belowK_b (w := w) (Nat.le_refl _) _ D _ _ (by omega) HK3.out rfl rfl)⟩
theorem runs_words (s : ByteArray) (b : Nat) (w : World) (hs : s.size ≤ 1099511627776) (hT : Tabs w) (hb : b < w.heap.size) (hc : w.cell? ⟨b, 0, none⟩ = some (.func (.func 111) #[] #[])) : Calls Tryz.prog 95 #[.string s, .func (.func 114) #[] #[.pointer (some ⟨b, 0, none⟩)], .func (.func 111) #[] #[]] w (OwnToks (tokOf s (runIx mayF wordF (runeL s.data.toList) 0 none)) w) := (callsIn_wide.1 (runs_words_in s b w hs hT hb hc))

end Go.Proofs.YtinmiekbhoemjaaGreatDoor.Ana
