/- The walk of AnalysisChain. -/
import Derived.Test.YtfbedonphhiolaaDoorAnaKnown
import Derived.Test.YtfbedonphhiolaaDoorAnaPlain
set_option linter.unusedVariables false
namespace Go.Proofs.YtfbedonphhiolaaDoor.AnalysisChainWalk
open Go.RowKit Go.Lib FoldP FoldNext AnaP Words Tree Kit Owned Ana

theorem reads_take {w : World} {B n m : Nat} {ao : Option Addr} {xs ys : List Value} (h : Reads w B 1 ao n (xs ++ ys)) (hm : xs.length = m) : Reads w B 1 ao m xs :=
  ⟨by omega, fun h0 => by
    have h1 := h.1
    rw [List.length_append] at h1
    obtain ⟨ad, e, hb, hc⟩ := h.2 (by omega)
    exact ⟨ad, e, hb, fun j u hu => hc j u (by rw [List.getElem?_append_left (List.getElem?_eq_some_iff.1 hu).1]; exact hu)⟩⟩
theorem link_ret (x : Int) (hf : filterB x = true) (ao : Option Addr) (c : Nat) (toks : List TokD) (w : World) (hk : Reads w w.heap.size 4 ao toks.length (tokCells toks)) (hl : toks.length ≤ 4096) (ht : ∀ t ∈ toks, t.text.size ≤ 4096) (hT : Tabs w) :
    Calls Tryd.prog 10 #[.int .i64 x, .slice ao toks.length c] w (RunRet (linkRet x toks) w) := by
  refine (link_any x hf ao c toks w hk (by omega) (fun t h => by have := ht t h; omega) hT).mono ?_
  rintro e w' (⟨h1, rfl, h2⟩ | ⟨ts, ao, c, h1, rfl, h2, h3⟩)
  · unfold linkRet; rw [h1]; exact runRet_none rfl h2
  · unfold linkRet; rw [h1]; exact ⟨ao, c, rfl, h2, h3⟩
theorem linkRet_len (x : Int) (l : List TokD) : (linkRet x l).1.length ≤ 4096 := by
  unfold linkRet
  split
  · simp
  · rename_i t e; exact linkF_len4 e

set_option maxRecDepth 100000 in
set_option maxHeartbeats 4000000 in
theorem walk_nil (ao : Option Addr) (c : Nat) (l : List Int) (x : ByteArray) (w : World) (hk : Reads w w.heap.size 1 ao l.length (intCells l)) (hc : l.length ≤ c) (hm : c ≤ maxLen) (hx : x.size ≤ 9223372036854775807) (hT : Tabs w) (h0 : l.length = 0) :
    Calls Tryd.prog 6 #[.slice ao l.length c, .string x] w (BoolB true w) := by
  have HK := Lib.hid hk; have HT := Lib.hid hT
  have HRA := Lib.hid (fun (W : World) (hW : Below w.heap.size w W) => run_any ao l.length c l x W rfl ((hk.below hW).more hW.size) hc hm hx (hT.next hW))
  have HCA := Lib.hid (fun (W : World) (hW : Below w.heap.size w W) => check_any ao l.length c l W rfl ((hk.below hW).more hW.size) hc hm)
  have hbad := check_bad l (by omega)
  have HE : Hid (runF l x = ([], 60)) := Lib.hid (by unfold runF; rw [if_pos hbad])
  rw [HE.out] at HRA
  rw [hbad] at HCA
  rw [h0] at HRA HCA hc ⊢
  clear hbad h0
  clear hk hT
  go_enter Tryd.func6, Tryd.ntmps6
  go_wp2_with fail
  refine (known_any _ HT.out).mono ?_
  rintro e w1 ⟨rfl, b1⟩
  have HB1 := Lib.hid b1; clear b1
  go_wp2_with fail
  refine (HRA.out _ HB1.out).mono ?_
  rintro e w2 ⟨a2, c2, rfl, o2, b2⟩
  have HB2 := Lib.hid (HB1.out.trans (b2.mono HB1.out.size))
  have HR2 := Lib.hid (Reads.of_own o2)
  clear o2 b2
  dsimp only at HR2 ⊢
  go_wp2_with fail
  go_ret
  exact ⟨rfl, HB2.out⟩

set_option maxRecDepth 100000 in
set_option maxHeartbeats 4000000 in
theorem walk_one (ao : Option Addr) (c : Nat) (l : List Int) (x : ByteArray) (w : World) (hk : Reads w w.heap.size 1 ao l.length (intCells l)) (hc : l.length ≤ c) (hm : c ≤ maxLen) (hx : x.size ≤ 9223372036854775807) (hT : Tabs w) (h0 : l.length = 1) :
    Calls Tryd.prog 6 #[.slice ao l.length c, .string x] w (BoolB true w) := by
  have HK := Lib.hid hk; have HT := Lib.hid hT
  have HRA := Lib.hid (fun (W : World) (hW : Below w.heap.size w W) => run_any ao l.length c l x W rfl ((hk.below hW).more hW.size) hc hm hx (hT.next hW))
  have HCA := Lib.hid (fun (W : World) (hW : Below w.heap.size w W) => check_any ao l.length c l W rfl ((hk.below hW).more hW.size) hc hm)
  rw [h0] at HRA HCA hc ⊢
  have HV : Hid (checkB l = true ∨ (checkB l = false ∧ runF l x = ([], 60))) := Lib.hid (by
    cases h : checkB l with
    | true => exact .inl rfl
    | false => exact .inr ⟨rfl, by unfold runF; rw [if_pos h]⟩)
  clear h0
  generalize runF l x = R at *
  obtain ⟨ts, k⟩ := R
  generalize hq : checkB l = q at *
  clear hq
  clear hk hT
  go_enter Tryd.func6, Tryd.ntmps6
  go_wp2_with fail
  refine (known_any _ HT.out).mono ?_
  rintro e w1 ⟨rfl, b1⟩
  have HB1 := Lib.hid b1; clear b1
  go_wp2_with fail
  refine (HRA.out _ HB1.out).mono ?_
  rintro e w2 ⟨a2, c2, rfl, o2, b2⟩
  have HB2 := Lib.hid (HB1.out.trans (b2.mono HB1.out.size))
  have HR2 := Lib.hid (Reads.of_own o2)
  clear o2 b2
  dsimp only at HR2 ⊢
  go_wp2_with fail
  refine (HCA.out _ HB2.out).mono ?_
  rintro e w3 ⟨rfl, b3⟩
  have HB3 := Lib.hid (HB2.out.trans (b3.mono HB2.out.size)); clear b3
  rcases HV.out with rfl | ⟨rfl, h⟩
  · unfold errOf
    rw [if_pos rfl]
    go_wp2_with fail
    go_ret
    exact ⟨rfl, HB3.out⟩
  · simp only [Prod.mk.injEq] at h
    obtain ⟨rfl, rfl⟩ := h
    unfold errOf
    rw [if_neg (by decide)]
    go_wp2_with fail
    go_ret
    exact ⟨rfl, HB3.out⟩

set_option maxRecDepth 100000 in
set_option maxHeartbeats 4000000 in
theorem walk_bad (ao : Option Addr) (c : Nat) (l : List Int) (x : ByteArray) (w : World) (hk : Reads w w.heap.size 1 ao l.length (intCells l)) (hc : l.length ≤ c) (hm : c ≤ maxLen) (hx : x.size ≤ 9223372036854775807) (hT : Tabs w) (h2 : 2 ≤ l.length) (hbad : checkB l = false) :
    Calls Tryd.prog 6 #[.slice ao l.length c, .string x] w (BoolB true w) := by
  have HK := Lib.hid hk; have HT := Lib.hid hT
  have HRA := Lib.hid (fun (W : World) (hW : Below w.heap.size w W) => run_any ao l.length c l x W rfl ((hk.below hW).more hW.size) hc hm hx (hT.next hW))
  have HCA := Lib.hid (fun (W : World) (hW : Below w.heap.size w W) => check_any ao l.length c l W rfl ((hk.below hW).more hW.size) hc hm)
  have HE : Hid (runF l x = ([], 60)) := Lib.hid (by unfold runF; rw [if_pos hbad])
  rw [HE.out] at HRA
  rw [hbad] at HCA
  have hl1 : decide ((l.length : Int) < 2) = false := by rw [decide_eq_false_iff_not]; omega
  have hl2 : ((l.length : Int) == 1) = false := by rw [beq_eq_false_iff_ne]; omega
  clear hbad
  clear hk hT
  go_enter Tryd.func6, Tryd.ntmps6
  go_wp2_with fail
  refine (known_any _ HT.out).mono ?_
  rintro e w1 ⟨rfl, b1⟩
  have HB1 := Lib.hid b1; clear b1
  go_wp2_with fail
  refine (HRA.out _ HB1.out).mono ?_
  rintro e w2 ⟨a2, c2, rfl, o2, b2⟩
  have HB2 := Lib.hid (HB1.out.trans (b2.mono HB1.out.size))
  have HR2 := Lib.hid (Reads.of_own o2)
  clear o2 b2
  dsimp only at HR2 ⊢
  go_wp2_with fail
  refine (HCA.out _ HB2.out).mono ?_
  rintro e w3 ⟨rfl, b3⟩
  have HB3 := Lib.hid (HB2.out.trans (b3.mono HB2.out.size)); clear b3
  unfold errOf
  rw [if_neg (by decide)]
  go_wp2_with fail
  go_ret
  exact ⟨rfl, HB3.out⟩

set_option maxRecDepth 100000 in
set_option maxHeartbeats 4000000 in
theorem walk_good (ao : Option Addr) (c : Nat) (l : List Int) (x : ByteArray) (w : World) (hk : Reads w w.heap.size 1 ao l.length (intCells l)) (hc : l.length ≤ c) (hm : c ≤ maxLen) (hx : x.size ≤ 9223372036854775807) (hT : Tabs w) (l0 : List Int) (y : Int) (hl : l = l0 ++ [y]) (h0 : l0 ≠ []) (hgood : checkB l = true) :
    Calls Tryd.prog 6 #[.slice ao l.length c, .string x] w (BoolB true w) := by
  have HK := Lib.hid hk; have HT := Lib.hid hT
  have HRA := Lib.hid (fun (W : World) (hW : Below w.heap.size w W) => run_any ao l.length c l x W rfl ((hk.below hW).more hW.size) hc hm hx (hT.next hW))
  have HCA := Lib.hid (fun (W : World) (hW : Below w.heap.size w W) => check_any ao l.length c l W rfl ((hk.below hW).more hW.size) hc hm)
  have HR0 : Hid (∀ W, Below w.heap.size w W → Calls Tryd.prog 19 #[.slice ao l0.length c, .string x] W (RunRet (runF l0 x) W)) := Lib.hid (fun W hW => run_any ao l0.length c l0 x W rfl (reads_take (ys := [.int .i64 y]) (by rw [hl] at hk; have h := (hk.below hW).more hW.size; simpa [intCells] using h) (by simp [intCells])) (by rw [hl, List.length_append] at hc; omega) hm hx (hT.next hW))
  have hln : l.length = l0.length + 1 := by rw [hl]; simp
  have h01 : 1 ≤ l0.length := List.length_pos_iff.2 h0
  have HSN : Hid (runF l x = if (runF l0 x).2 = 0 then linkRet y (runF l0 x).1 else ([], (runF l0 x).2)) := Lib.hid (by rw [hl]; exact runF_snoc l0 y x h0 (by rw [← hl]; exact hgood))
  have hfy : filterB y = true := (check_snoc h0 (by rw [← hl]; exact hgood)).2
  have HLT : Hid ((runF l0 x).1.length ≤ 4096 ∧ ∀ t ∈ (runF l0 x).1, t.text.size ≤ 4096) := Lib.hid ⟨runF_len l0 x, runF_text l0 x⟩
  have HLR := Lib.hid (linkRet_len y (runF l0 x).1)
  have HLK : Hid (∀ W a' c', Below w.heap.size w W → Reads W W.heap.size 4 a' (runF l0 x).1.length (tokCells (runF l0 x).1) → Calls Tryd.prog 10 #[.int .i64 y, .slice a' (runF l0 x).1.length c'] W (RunRet (linkRet y (runF l0 x).1) W)) := Lib.hid (fun W a' c' hW hr => link_ret y hfy a' c' _ W hr HLT.out.1 HLT.out.2 (hT.next hW))
  obtain ⟨ad, rfl, hba, hcell⟩ := hk.2 (by omega)
  have hy0 : w.cell? (ad.add l0.length) = some (.int .i64 y) := hcell _ _ (by rw [hl]; simp [intCells])
  have HY : Hid (w.cell? (ad.add l0.length) = some (.int .i64 y)) := Lib.hid hy0
  rw [hgood] at HCA
  have hl1 : decide ((l.length : Int) < 2) = false := by rw [decide_eq_false_iff_not]; omega
  have hl2 : (l.length : Int) - 1 = (l0.length : Int) := by omega
  have hl3 : l0.length ≤ c := by omega
  have hl4 : (l0.length : Int) < (l.length : Int) := by omega
  have hl5 : l0.length < l.length := by omega
  unfold maxLen at hm
  have hl6 : IntKind.i64.wrap ((l.length : Int) - 1) = (l0.length : Int) := by rw [hl2]; exact IntWalk.i64_in _ (by omega)
  clear hgood hl hfy HLT h0 hcell hy0 hln
  generalize runF l x = R at *
  generalize runF l0 x = R0 at *
  obtain ⟨ts, k⟩ := R
  obtain ⟨ts0, k0⟩ := R0
  dsimp only at HSN HLK HLR
  clear hk hT
  go_enter Tryd.func6, Tryd.ntmps6
  go_wp2_with fail
  refine (known_any _ HT.out).mono ?_
  rintro e w1 ⟨rfl, b1⟩
  have HB1 := Lib.hid b1; clear b1
  go_wp2_with fail
  refine (HRA.out _ HB1.out).mono ?_
  rintro e w2 ⟨a2, c2, rfl, o2, b2⟩
  have HB2 := Lib.hid (HB1.out.trans (b2.mono HB1.out.size))
  have HR2 := Lib.hid (Reads.of_own o2)
  clear o2 b2
  dsimp only at HR2 ⊢
  go_wp2_with fail
  refine (HCA.out _ HB2.out).mono ?_
  rintro e w3 ⟨rfl, b3⟩
  have HB3 := Lib.hid (HB2.out.trans (b3.mono HB2.out.size))
  have HR3 := Lib.hid ((HR2.out.below b3).more b3.size); clear b3
  unfold errOf
  rw [if_pos rfl]
  go_wp2_with fail
  refine (HR0.out _ HB3.out).mono ?_
  rintro e w4 ⟨a4, c4, rfl, o4, b4⟩
  have HB4 := Lib.hid (HB3.out.trans (b4.mono HB3.out.size))
  have HR4 := Lib.hid (Reads.of_own o4)
  have HR34 := Lib.hid ((HR3.out.below b4).more b4.size)
  clear o4 b4
  dsimp only at HR4 ⊢
  by_cases hk0 : k0 = 0
  · subst hk0
    have HE : Hid ((ts, k) = linkRet y ts0) := Lib.hid (by rw [HSN.out]; exact if_pos rfl)
    have hcy : w4.cell? (ad.add l0.length) = some (.int .i64 y) := (HB4.out.cell (by rw [block_of_add]; exact hba)).trans HY.out
    rw [← HE.out] at HLK HLR
    dsimp only at HLR
    go_wp2_with fail
    refine (HLK.out _ _ _ HB4.out HR4.out).mono ?_
    rintro e w5 ⟨a5, c5, rfl, o5, b5⟩
    have HB5 := Lib.hid (HB4.out.trans (b5.mono HB4.out.size))
    have HR5 := Lib.hid (Reads.of_own o5)
    have HR35 := Lib.hid ((HR34.out.below b5).more b5.size)
    clear o5 b5 hcy
    dsimp only at HR5 ⊢
    have hkk : (k == k) = true := by simp
    have hll := HLR.out
    go_wp2_with fail
    refine (tokensEq_any _ _ _ _ ts ts _ HR35.out HR5.out (by omega) (by omega) true (by simp)).mono ?_
    rintro e w6 ⟨rfl, b6⟩
    have HB6 := Lib.hid (HB5.out.trans (b6.mono HB5.out.size)); clear b6
    go_wp2_with fail
    go_ret
    exact ⟨rfl, HB6.out⟩
  · have HE : Hid ((ts, k) = ([], k0)) := Lib.hid (by rw [HSN.out]; exact if_neg hk0)
    obtain ⟨rfl, rfl⟩ : ts = [] ∧ k = k0 := by have := HE.out; simpa using this
    have hkk : (k == k) = true := by simp
    have hkn : (k != 0) = true := by rw [bne_iff_ne]; exact hk0
    clear hk0
    go_wp2_with fail
    go_ret
    exact ⟨rfl, HB4.out⟩

theorem walk (ao : Option Addr) (c : Nat) (l : List Int) (x : ByteArray) (w : World) (hk : Reads w w.heap.size 1 ao l.length (intCells l)) (hc : l.length ≤ c) (hm : c ≤ maxLen) (hx : x.size ≤ 9223372036854775807) (hT : Tabs w) :
    Calls Tryd.prog 6 #[.slice ao l.length c, .string x] w (BoolB true w) := by
  rcases (show l.length = 0 ∨ l.length = 1 ∨ 2 ≤ l.length by omega) with h | h | h
  · exact walk_nil ao c l x w hk hc hm hx hT h
  · exact walk_one ao c l x w hk hc hm hx hT h
  · cases hg : checkB l with
    | false => exact walk_bad ao c l x w hk hc hm hx hT h hg
    | true =>
      rcases List.eq_nil_or_concat l with rfl | ⟨l0, y, hl⟩
      · simp at h
      · rw [List.concat_eq_append] at hl
        exact walk_good ao c l x w hk hc hm hx hT l0 y hl (by rintro rfl; rw [hl] at h; simp at h) hg
end Go.Proofs.YtfbedonphhiolaaDoor.AnalysisChainWalk
