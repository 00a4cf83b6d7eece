/- Contract: asker.aggs. Contracts: rows of tokens compared, lent and kept. -/
import Derived.Test.YtinmiekbhoemjaaGreatDoorQckAgg2
import Derived.StillTailTactics
import Derived.Deep.RegionHeld3
import Derived.Test.YtinmiekbhoemjaaGreatDoorProg
import Derived.Test.YtinmiekbhoemjaaGreatDoorPack3
import Derived.Test.YtinmiekbhoemjaaGreatDoorPack5
import Derived.Test.YtinmiekbhoemjaaGreatDoorPack7
import Derived.Deep.QuietTactic
import Derived.BigQuiet
import Derived.LoopTactic
import Derived.Laws.StructEq
section
set_option linter.unusedVariables false
namespace Go.Proofs.YtinmiekbhoemjaaGreatDoor.Qck
open Go.RowKit Words Tree SchP QckP Kit Owned Sch Qry
theorem akeys_of {w : World} {ks : List AggT} {v : Value} (h : T.At bare w (fun g => g < w.heap.size) (rowT 7 acells ks) v) : ∃ A cap, v = .slice A ks.length cap ∧ ks.length ≤ cap ∧ cap ≤ maxLen ∧ AKeys w w.heap.size A ks := by
  obtain ⟨A, cap, rfl, hc, hm, hel⟩ := at_row acells_len h
  refine ⟨A, cap, rfl, by simpa [bare] using hc, hm, fun i hi => ?_⟩
  obtain ⟨ad, us, e, hb, au, lu, cu⟩ := hel i hi
  exact ⟨ad, us, e, hb, au, cu⟩
theorem aggsF_step (l : List FT) (above : Nat) (gs : List AggT) (k : Nat) (h : k < gs.length) : aggsF l above (gs.take k) (gs.drop k) = orE (if 8 ≤ k ∨ 3 ≤ above then 184 else orE (aggO l gs[k] (gs.take k)) (aggsF l (above + 1) [] (kids_ gs[k]))) (aggsF l above (gs.take (k + 1)) (gs.drop (k + 1))) := by
  rw [List.drop_eq_getElem_cons h, aggsF, List.take_succ_eq_append_getElem h]
  congr 1
  have hl : (gs.take k).length = k := by rw [List.length_take]; omega
  cases gs[k] with
  | mk n kd f s b t ks => rw [aggF, hl]; rfl
set_option maxRecDepth 100000 in
set_option maxHeartbeats 4000000 in
theorem aggs_any (ga : Nat) (l : List FT) : ∀ (m above : Nat) (gs : List AggT) (A : Option Addr) (cap : Nat) (w : World), above + m = 3 → Sk w ga l → AKeys w w.heap.size A gs → gs.length * 104 ≤ 140737488351232 → gs.length ≤ cap → cap ≤ maxLen → (∀ a ∈ gs, AOk a) →
    Calls Tryz.prog 38 #[.pointer (some ⟨ga, 0, none⟩), .slice A gs.length cap, .int .i64 above] w (Sch.IntB (aggsF l above [] gs) w)
  | m, above, gs, A, cap, w, hm, hS, hA, hl, hc, hcm, hok => by
    have HS := Lib.hid hS
    have HA := Lib.hid hA
    have HOK := Lib.hid hok
    have IH := Lib.hid (fun (m' : Nat) (hm' : m = m' + 1) (ks : List AggT) (A' : Option Addr) (cap' : Nat) (W : World) (hW : Below w.heap.size w W) => aggs_any ga l m' (above + 1) ks A' cap' W (by omega) (hS.below hW))
    have HAG := Lib.hid (fun (g : AggT) (us : List Value) (n : Nat) (W : World) (hW : Below w.heap.size w W) (hg : T.AtL bare W (fun g => g < W.heap.size) (acells g) us) (ho : AOk g) => agg_any ga l g us (gs.take n) A cap W (hS.below hW) hg ho ((hA.below hW).take n) (by rw [List.length_take]; omega))
    have hga := hS.1
    obtain ⟨r, hr⟩ : ∃ r, aggsF l above [] gs = r := ⟨_, rfl⟩
    have HR : Hid (aggsF l above (gs.take 0) (gs.drop 0) = r) := Lib.hid hr
    rw [hr]
    clear hr hS hA hok
    go_enter Tryz.func38, Tryz.ntmps38
    go_wp2_with fail
    go_loopw [13] (fun i wr => ∃ k : Nat, k ≤ gs.length ∧ k ≤ 8 ∧ i = .int .i64 k ∧ Hid (aggsF l above (gs.take k) (gs.drop k) = r) ∧ Hid (Below w.heap.size w wr)) (fun i _ => gs.length - (intOf i).toNat)
    case atStart => exact ⟨0, by omega, by omega, rfl, HR, Lib.hid (Below.refl _ _)⟩
    case round =>
      obtain ⟨k, hkk, hk8, rfl, HK, HW⟩ := hrel
      by_cases hlt : k < gs.length
      · obtain ⟨ad, us, rfl, hba, au, cu⟩ := HA.out k hlt
        replace cu := cu.keep (w' := wr) (fun p hp => HW.out.cell (by rw [hp, block_of_add]; exact hba))
        have hab : (ad.add (k * 7)).block < wr.heap.size := by rw [block_of_add]; have := HW.out.size; omega
        have HD := Lib.hid ((aggsF_step l above gs k hlt).symm.trans HK.out)
        have HO := Lib.hid (HOK.out _ (List.getElem_mem hlt))
        have AU := Lib.hid au
        have hlk : (gs.take k).length = k := by rw [List.length_take]; omega
        have HAK := Lib.hid (fun (W : World) (hW : Below w.heap.size w W) => by
          have := HAG.out gs[k] us k W hW (AtL.below au hW (fun g hg => Nat.lt_of_lt_of_le hg hW.size)) HO.out
          rw [hlk] at this
          exact this)
        generalize aggO l gs[k] (gs.take k) = eo at *
        generalize hgk : gs[k] = g at *
        obtain ⟨n, kd, f, s, b, t, ks⟩ := g
        have HKO : Hid (ks.length * 104 ≤ 140737488351232 ∧ ∀ a ∈ ks, AOk a) := Lib.hid (by cases HO.out with | mk _ _ _ _ _ _ h1 h2 => exact ⟨h1, h2⟩)
        obtain ⟨vb, vk, rfl, hvb, hvk⟩ := at_acells au
        obtain ⟨XB, cb, rfl, _⟩ := at_slice hvb
        obtain ⟨XK, ck, rfl, hck, hckm, hak⟩ := akeys_of hvk
        have HAKK := Lib.hid hak
        obtain ⟨a0, a1, a2, a3, a4, a5, a6⟩ := seven cu
        unfold kids_ at HD
        dsimp only at HD
        clear cu hvb hvk au hak hlk hgk
        have hz := HW.out.size
        by_cases h8 : k = 8
        · have d8 : ((k : Int) == (8 : Int)) = true := by rw [beq_iff_eq]; omega
          have HZ : Hid (r = 184) := Lib.hid (by rw [← HD.out, if_pos (.inl (by omega))]; rfl)
          clear h8
          go_wp2_with fail
          go_ret
          rw [HZ.out]
          exact ⟨rfl, HW.out.alloc HW.out.size _⟩
        have d8 : ((k : Int) == (8 : Int)) = false := by rw [beq_eq_false_iff_ne]; omega
        by_cases h3 : above = 3
        · have d3 : ((above : Int) == (3 : Int)) = true := by rw [beq_iff_eq]; omega
          have HZ : Hid (r = 184) := Lib.hid (by rw [← HD.out, if_pos (.inr (by omega))]; rfl)
          clear h3
          go_wp2_with fail
          go_ret
          rw [HZ.out]
          exact ⟨rfl, HW.out.alloc HW.out.size _⟩
        have d3 : ((above : Int) == (3 : Int)) = false := by rw [beq_eq_false_iff_ne]; omega
        have HD2 : Hid (orE (orE eo (aggsF l (above + 1) [] ks)) (aggsF l above (gs.take (k + 1)) (gs.drop (k + 1))) = r) := Lib.hid (by rw [← HD.out, if_neg (by omega)])
        clear HD
        have hkc : (k : Int) ≤ (cap : Int) := by omega
        have hk0 : (0 : Int) ≤ (k : Int) := by omega
        go_upto_region 6 with fail
        have HB6 := Lib.hid (HW.out.alloc HW.out.size (Obj.cells #[.string n, .int .i64 kd, .string f, .int .i64 s, .slice XB b.length cb, .int .i64 t, .slice XK ks.length ck] 87))
        have BG6 := Lib.hid (Blk.new wr 87 #[.string n, .int .i64 kd, .string f, .int .i64 s, .slice XB b.length cb, .int .i64 t, .slice XK ks.length ck])
        generalize wr.alloc (Obj.cells #[.string n, .int .i64 kd, .string f, .int .i64 s, .slice XB b.length cb, .int .i64 t, .slice XK ks.length ck] 87) = W6 at *
        generalize wr.heap.size = gg at *
        clear a0 a1 a2 a3 a4 a5 a6 hab
        have hd6 : Below W6.heap.size W6 W6.drew := (Below.refl _ W6).drew
        refine wp_region_held_drew (S := fun V => Below W6.heap.size W6 V) (by kernel_rfl) hd6 (fun hSg0 => ?_)
        refine' wpAnyH_take (i := 0) (v := _) (by simp only [List.getElem?_toArray, List.getElem?_cons_zero]; rfl) (by kernel_rfl) (by kernel_rfl) (by kernel_rfl) (by exact fun _ _ _ h => h) (Or.inl ⟨by rfl, ?hyg0⟩) hSg0 ?restg0
        case hyg0 => intro V hSw; clear hSw; go_simp; try with_reducible rfl
        try simp only [Act.put, List.setIfInBounds_toArray, List.set_cons_zero, List.set_cons_succ]
        refine' wpAnyH_take (i := 1) (v := _) (by simp only [List.getElem?_toArray, List.getElem?_cons_succ, List.getElem?_cons_zero]; rfl) (by kernel_rfl) (by kernel_rfl) (by kernel_rfl) (by exact fun _ _ _ h => h) (Or.inl ⟨by rfl, ?hyg1⟩) hSg0 ?restg1
        case hyg1 => intro V hSw; obtain ⟨b0, b1, b2, b3, b4, b5, b6⟩ := blk7 (BG6.out.below hSw BG6.out.lt); clear hSw; go_simp; try with_reducible rfl
        try simp only [Act.put, List.setIfInBounds_toArray, List.set_cons_zero, List.set_cons_succ]
        refine' wpAnyH_take (i := 2) (v := _) (by simp only [List.getElem?_toArray, List.getElem?_cons_succ, List.getElem?_cons_zero]; rfl) (by kernel_rfl) (by kernel_rfl) (by kernel_rfl) (by exact fun _ _ _ h => h) (Or.inl ⟨by rfl, ?hyg2⟩) hSg0 ?restg2
        case hyg2 => intro V hSw; clear hSw; go_simp; try with_reducible rfl
        try simp only [Act.put, List.setIfInBounds_toArray, List.set_cons_zero, List.set_cons_succ]
        refine' wpAnyH_take (i := 3) (v := _) (by simp only [List.getElem?_toArray, List.getElem?_cons_succ, List.getElem?_cons_zero]; rfl) (by kernel_rfl) (by kernel_rfl) (by kernel_rfl) (by exact fun _ _ _ h => h) (Or.inl ⟨by rfl, ?hyg3⟩) hSg0 ?restg3
        case hyg3 => intro V hSw; clear hSw; go_simp; try with_reducible rfl
        try simp only [Act.put, List.setIfInBounds_toArray, List.set_cons_zero, List.set_cons_succ]
        refine' wpAnyH_take (i := 4) (v := _) (by simp only [List.getElem?_toArray, List.getElem?_cons_succ, List.getElem?_cons_zero]; rfl) (by kernel_rfl) (by kernel_rfl) (by kernel_rfl) (by exact fun _ _ _ h => h) (Or.inl ⟨by rfl, ?hyg4⟩) hSg0 ?restg4
        case hyg4 => intro V hSw; clear hSw; go_simp; try with_reducible rfl
        try simp only [Act.put, List.setIfInBounds_toArray, List.set_cons_zero, List.set_cons_succ]
        refine wpAnyH_ready (rs := [5]) (by kernel_rfl) (by simp) ?_
        refine' AllReadyH.cons (by simp only [List.getElem?_toArray, List.getElem?_cons_succ, List.getElem?_cons_zero]; rfl) (fun K hK => ?_) AllReadyH.nil
        go_simp
        refine (HAK.out _ (HB6.out.trans (hSg0.mono HB6.out.size))).mono ?_
        rintro e Vg1 ⟨rfl, q⟩
        have Bg1 := Lib.hid (Below.trans hSg0 (q.mono (hSg0).size))
        clear q
        go_simp
        refine hK.out _ _ Bg1.out (fun hSg1 => ?_)
        try simp only [Act.put, List.setIfInBounds_toArray, List.set_cons_zero, List.set_cons_succ]
        refine' wpAnyH_take (i := 6) (v := _) (by simp only [List.getElem?_toArray, List.getElem?_cons_succ, List.getElem?_cons_zero]; rfl) (by kernel_rfl) (by kernel_rfl) (by kernel_rfl) (by exact fun _ _ _ h => h) (Or.inl ⟨by rfl, ?hyg6⟩) hSg1 ?restg6
        case hyg6 => intro V hSw; clear hSw; go_simp; try with_reducible rfl
        try simp only [Act.put, List.setIfInBounds_toArray, List.set_cons_zero, List.set_cons_succ]
        refine wpAnyH_done (by kernel_rfl) ?_ _
        have HB7 := Lib.hid (HB6.out.trans (Bg1.out.mono HB6.out.size))
        have BG7 := Lib.hid (BG6.out.below Bg1.out BG6.out.lt)
        clear hSg0 hSg1 hd6 HB6 BG6
        by_cases he : eo = 0
        · subst he
          have HD3 : Hid (orE (aggsF l (above + 1) [] ks) (aggsF l above (gs.take (k + 1)) (gs.drop (k + 1))) = r) := Lib.hid HD2.out
          obtain ⟨m', rfl⟩ : ∃ m', m = m' + 1 := ⟨m - 1, by omega⟩
          have HAS : Hid (Calls Tryz.prog 38 #[.pointer (some ⟨ga, 0, none⟩), .slice XK ks.length ck, .int .i64 ((above : Int) + 1)] Vg1 (Sch.IntB (aggsF l (above + 1) [] ks) Vg1)) := Lib.hid (IH.out m' rfl ks XK ck Vg1 HB7.out (HAKK.out.below HB7.out) HKO.out.1 hck hckm HKO.out.2)
          have c6 : Vg1.cell? ⟨gg, 6, none⟩ = some (.slice XK ks.length ck) := BG7.out.cell 6
          have hw1 : IntKind.i64.wrap ((above : Int) + 1) = (above : Int) + 1 := IntWalk.i64_in _ (by omega)
          generalize aggsF l (above + 1) [] ks = ek at *
          go_wp2_with fail
          refine HAS.out.mono ?_
          rintro e w8 ⟨rfl, hb⟩
          have HB8 := Lib.hid (HB7.out.trans (hb.mono HB7.out.size))
          clear hb c6
          by_cases hk2 : ek = 0
          · subst hk2
            have HZ : Hid (aggsF l above (gs.take (k + 1)) (gs.drop (k + 1)) = r) := Lib.hid HD3.out
            go_wp2_with fail
            go_roundw
            case rel => exact ⟨k + 1, by omega, by omega, by go_num, HZ, HB8⟩
            case measure => simp [intOf]; omega
          · have hke : (ek != (0 : Int)) = true := by rw [bne_iff_ne]; exact hk2
            have HZ : Hid (r = ek) := Lib.hid (by rw [← HD3.out, orE, if_neg hk2])
            clear hk2
            go_wp2_with fail
            go_ret
            rw [HZ.out]
            exact ⟨rfl, HB8.out⟩
        · have hee : (eo != (0 : Int)) = true := by rw [bne_iff_ne]; exact he
          have HZ : Hid (r = eo) := Lib.hid (by
            have := HD2.out
            unfold orE at this
            rw [if_neg he, if_neg he] at this
            exact this.symm)
          clear he
          go_wp2_with fail
          go_ret
          rw [HZ.out]
          exact ⟨rfl, HB7.out⟩
      · obtain rfl : k = gs.length := by omega
        have HZ : Hid (r = 0) := Lib.hid (by rw [← HK.out, List.drop_length, aggsF])
        go_wp2_with fail
        go_ret
        rw [HZ.out]
        exact ⟨rfl, HW.out⟩
end Go.Proofs.YtinmiekbhoemjaaGreatDoor.Qck
end
section
set_option linter.unusedVariables false
namespace Go.Proofs.YtinmiekbhoemjaaGreatDoor.Ana
open Go.RowKit Go.Lib AnaP Words Tree Kit Owned

def BoolB (b : Bool) (w : World) (e : Ending) (w' : World) : Prop := e = .returned (.bool b) ∧ Below w.heap.size w w'
/-- Element k of a row of tokens. -/
theorem reads_tok {w : World} {B n : Nat} {ao : Option Addr} {ts : List TokD} (h : Reads w B 4 ao n (tokCells ts)) (hn : n = ts.length) {k : Nat} (hk : k < ts.length) :
    ∃ ad, ao = some ad ∧ ad.block < B ∧ w.cell? (ad.add (k * 4)) = some (.string ts[k].text) ∧ w.cell? ⟨(ad.add (k * 4)).block, (ad.add (k * 4)).off + 1, none⟩ = some (.int .i64 ts[k].pos) ∧ w.cell? ⟨(ad.add (k * 4)).block, (ad.add (k * 4)).off + 2, none⟩ = some (.int .i64 ts[k].frm) ∧ w.cell? ⟨(ad.add (k * 4)).block, (ad.add (k * 4)).off + 3, none⟩ = some (.int .i64 ts[k].til) := by
  obtain ⟨ad, ha, hb, hc⟩ := reads_elem cells_len h hn hk
  exact ⟨ad, ha, hb, hc.zero, hc.at_ 1 _ rfl (by omega), hc.at_ 2 _ rfl (by omega), hc.at_ 3 _ rfl (by omega)⟩

/-! ### Lent, kept -/
theorem infoTok : (Tryz.prog.info? 117).map (fun i => (i.zero, i.size, i.bytes)) = some (some (.agg #[.string ⟨#[]⟩, .int .i64 0, .int .i64 0, .int .i64 0]), 4, 40) := by kernel_rfl
theorem tok_one {u : Value} {ts : List TokD} (h : u ∈ tokCells ts) : u.oneCell' = true := by
  unfold tokCells at h
  rw [List.mem_flatMap] at h
  obtain ⟨t, _, h⟩ := h
  simp only [TokD.cells, List.mem_cons, List.not_mem_nil, or_false] at h
  rcases h with rfl | rfl | rfl | rfl <;> rfl
theorem tokCells_append (a b : List TokD) : tokCells (a ++ b) = tokCells a ++ tokCells b := by simp [tokCells]
theorem tokCells_len (l : List TokD) : (tokCells l).length = l.length * 4 := flat_len cells_len l
theorem cells_new (w : World) (l : List Value) (t : TypeId) (j : Nat) (u : Value) (h : l[j]? = some u) : (w.alloc (.cells l.toArray t)).cell? ((⟨w.heap.size, 0, none⟩ : Addr).add j) = some u := by
  have e : (⟨w.heap.size, 0, none⟩ : Addr).add j = ⟨w.heap.size, j, none⟩ := by unfold Addr.add; split <;> simp_all
  rw [e, World.cell?_alloc_new]; simpa using h
def markT : TokD := ⟨⟨#[]⟩, -71, 0, 0⟩
/-- A row of tokens in memory of the call's own, with the mark behind it. -/
def LentRow (w : World) (B : Nat) (v : Value) (ts : List TokD) : Prop :=
  ∃ g cap, v = .slice (some ⟨g, 0, none⟩) ts.length cap ∧ ts.length < cap ∧ cap ≤ maxLen ∧ B ≤ g ∧ Reads w w.heap.size 4 (some ⟨g, 0, none⟩) (ts.length + 1) (tokCells (ts ++ [markT]))
/-- What was lent reads as it did. -/
theorem LentRow.reads {w : World} {B : Nat} {v : Value} {ts : List TokD} (h : LentRow w B v ts) : ∃ g cap, v = .slice (some ⟨g, 0, none⟩) ts.length cap ∧ ts.length < cap ∧ cap ≤ maxLen ∧ Reads w w.heap.size 4 (some ⟨g, 0, none⟩) ts.length (tokCells ts) ∧ g < w.heap.size ∧ w.cell? ⟨g, ts.length * 4 + 1, none⟩ = some (.int .i64 (-71)) := by
  obtain ⟨g, cap, rfl, h1, h2, h3, h4⟩ := h
  obtain ⟨ad, ha, hb, hc⟩ := h4.2 (by omega)
  obtain rfl := Option.some.inj ha
  refine ⟨g, cap, rfl, h1, h2, ⟨tokCells_len ts, fun hn => ⟨_, rfl, hb, fun j u hu => hc j u ?_⟩⟩, hb, ?_⟩
  · rw [tokCells_append, List.getElem?_append_left (List.getElem?_eq_some_iff.1 hu).1]; exact hu
  · have := hc (ts.length * 4 + 1) (.int .i64 (-71)) (by rw [tokCells_append, List.getElem?_append_right (by rw [tokCells_len]; omega), tokCells_len, Nat.add_sub_cancel_left]; rfl)
    unfold Addr.add at this
    rw [if_neg (by omega)] at this
    simpa using this
theorem LentRow.below {w w' : World} {B : Nat} {v : Value} {ts : List TokD} (h : LentRow w B v ts) (hb : Below w.heap.size w w') : LentRow w' B v ts := by
  obtain ⟨g, cap, rfl, h1, h2, h3, h4⟩ := h
  exact ⟨g, cap, rfl, h1, h2, h3, (h4.below hb).more hb.size⟩

end Go.Proofs.YtinmiekbhoemjaaGreatDoor.Ana
end
