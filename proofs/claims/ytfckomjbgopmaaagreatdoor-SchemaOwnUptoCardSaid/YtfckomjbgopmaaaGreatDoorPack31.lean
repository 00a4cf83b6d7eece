/- A row of tokens that grows while another one is read. Contract: kit.ApartDocs: documents whose numbers and entries lie apart. Written by gen_apdocs.py. -/
import Derived.Test.YtfckomjbgopmaaaGreatDoorPack19
import Derived.Test.YtfckomjbgopmaaaGreatDoorPack15
import Derived.Test.YtfckomjbgopmaaaGreatDoorPack14
import Derived.Test.YtfckomjbgopmaaaGreatDoorAnaLink
import Derived.Test.YtfckomjbgopmaaaGreatDoorPack18
import Derived.Deep.RegionHeld3
section
set_option linter.unusedVariables false
namespace Go.Proofs.YtfckomjbgopmaaaGreatDoor.Sch
open Go.RowKit Words Tree SchP Kit Owned AnaP

theorem neqz (a b : Int) : (a = b ∧ (a != b) = false) ∨ (a ≠ b ∧ (a != b) = true) := by
  by_cases h : a = b
  · exact .inl ⟨h, by simpa using h⟩
  · exact .inr ⟨h, by simpa using h⟩
theorem own_sl {w : World} {B n m : Nat} {e : TypeId} {v : Value} {xs : List Value} (h : w.ownsRow B e m v n xs) : ∃ a c, v = .slice a n c := by
  rcases h.2 with ⟨rfl, rfl⟩ | ⟨g, cap, cur, rfl, _⟩
  · exact ⟨none, 0, rfl⟩
  · exact ⟨_, _, rfl⟩
theorem own_from {w : World} {B B' n m : Nat} {e : TypeId} {v : Value} {xs : List Value} (h : w.ownsRow B e m v n xs) (hB : B' ≤ B) : w.ownsRow B' e m v n xs := by
  refine ⟨h.1, h.2.elim .inl fun ⟨g, cap, cur, hv, h1, h2, h3⟩ => .inr ⟨g, cap, cur, hv, Nat.le_trans hB h1, h2, h3⟩⟩
/-- What Tokens answers. -/
def OwnT (ts : List TokD) (w : World) (e : Ending) (w' : World) : Prop := ∃ ao c, e = .returned (.slice ao ts.length c) ∧ w'.ownsRow w.heap.size 59 4 (.slice ao ts.length c) ts.length (tokCells ts) ∧ Below w.heap.size w w'
theorem ownT_none {w w' : World} (hb : Below w.heap.size w w') : OwnT [] w (.returned (.slice none 0 0)) w' := ⟨none, 0, rfl, World.ownsRow_nil _ _ _ _, hb⟩
/-- What holds when k cells have been gone over. -/
def ToksSt (W1 : World) (f : FT) (i : Nat) (cs : List CT) (R : List TokD) (k : Nat) (o : Value) (wr : World) : Prop :=
  ∃ out, toksGo (runTk f) i out (cs.drop k) = R ∧ ToksOk k out ∧ wr.ownsRow W1.heap.size 59 4 o out.length (tokCells out) ∧ Below W1.heap.size W1 wr
/-- What holds when j of a value's tokens have been added. -/
structure AddSt (B m5 : Nat) (W6 : World) (out ts : List TokD) (b : Int) (j : Nat) (o : Value) (wr : World) : Prop where
  own : wr.ownsRow B 59 4 o (out.length + j) (tokCells (out ++ (shiftP b ts).take j))
  far : ∀ g, o.ownBlock = some g → g < m5 ∨ W6.heap.size ≤ g
  but : But (fun g => B ≤ g ∧ (g < m5 ∨ W6.heap.size ≤ g)) W6 wr
theorem tok4 {w : World} {g : Nat} {t : TypeId} {v0 v1 v2 v3 : Value} (h : Blk w g t #[v0, v1, v2, v3]) :
    w.cell? ⟨g, 0, none⟩ = some v0 ∧ w.cell? ⟨g, 1, none⟩ = some v1 ∧ w.cell? ⟨g, 2, none⟩ = some v2 ∧ w.cell? ⟨g, 3, none⟩ = some v3 :=
  ⟨h.cell 0, h.cell 1, h.cell 2, h.cell 3⟩
end Go.Proofs.YtfckomjbgopmaaaGreatDoor.Sch
end
section
set_option linter.unusedVariables false
namespace Go.Proofs.YtfckomjbgopmaaaGreatDoor.Sch
open Go.RowKit Words Tree SchP Kit Owned AnaP

theorem lt_of_cell {w : World} {p : Addr} {u : Value} (h : w.cell? p = some u) : p.block < w.heap.size := by
  rcases Nat.lt_or_ge p.block w.heap.size with h' | h'
  · exact h'
  · have : w.heap[p.block]? = none := Array.getElem?_eq_none h'
    simp [World.cell?, this] at h
theorem off_nd {ne : Nat → Nat} {nd : Nat} (hnd : nd ≤ 4) (hne : ∀ j, j < nd → ne j ≤ 10000000) : off ne nd ≤ 40000000 := by
  have := off_le (nd := nd) hne
  have : nd * 10000000 ≤ 4 * 10000000 := Nat.mul_le_mul_right _ hnd
  omega
set_option maxRecDepth 100000 in
set_option maxHeartbeats 16000000 in
theorem apartDocs_any (Lv : Value) (nd B N : Nat) (dv : Nat → Value) (ne : Nat → Nat) (cs : Nat → List Value) (vs : Nat → Value) (xs0 : Nat → List Value) (w : World)
    (hL : w.ownsRow B 30 1 Lv nd ((List.range nd).map dv)) (hD : ∀ j, j < nd → w.ownsRow N 68 3 (dv j) (ne j) (cs j))
    (hA : ∀ i j g, i < nd → j < nd → (dv i).ownBlock = some g → (dv j).ownBlock = some g → i = j) (hF : Fam 2 N w (off ne nd) vs vs xs0 (fun _ => []))
    (hc : ∀ j k, j < nd → k < ne j → (cs j)[k * 3 + 2]? = some (vs (off ne j + k))) (hL2 : ∀ j, j < off ne nd → (xs0 j).length ≤ 4294967296) (hnd : nd ≤ 4) (hne : ∀ j, j < nd → ne j ≤ 10000000) (hN : N ≤ w.heap.size) (hBN : N ≤ B) :
    Calls Tryz.prog 27 #[Lv] w (fun e w' => e = .returned (.bool true) ∧ Below N w w') := by
  obtain ⟨A, cA, rfl⟩ := own_slice hL
  have hof := off_nd hnd hne
  have HDV : Hid (∀ j, j < nd → ∃ X c, dv j = .slice X (ne j) c) := Lib.hid (fun j hj => by
    obtain ⟨X, c, h⟩ := own_sl (hD j hj)
    exact ⟨X, c, h⟩)
  have HNE := Lib.hid hne
  have HVS : Hid (∀ m, m < off ne nd → ∃ X l c, vs m = .slice X l c) := Lib.hid (fun m hm => by
    obtain ⟨X, c, h⟩ := own_slice (hF.ent m hm).v
    exact ⟨X, _, c, h⟩)
  have HLL : Hid (∀ W, Below w.heap.size w W → W.ownsRow B 30 1 (.slice A nd cA) nd ((List.range nd).map dv)) := Lib.hid (fun W hW => own_below hL hW)
  have HDD : Hid (∀ W, Below w.heap.size w W → ∀ j, j < nd → W.ownsRow N 68 3 (dv j) (ne j) (cs j)) := Lib.hid (fun W hW j hj => own_below (hD j hj) hW)
  have HFF : Hid (∀ W, Below w.heap.size w W → Fam 2 N W (off ne nd) vs vs xs0 (fun _ => [])) := Lib.hid (fun W hW => hF.below hW)
  have HAA := Lib.hid hA; have HCC := Lib.hid hc; have HL2 := Lib.hid hL2
  have H0 : Hid (Ad1 vs w (off ne 0) (.slice none 0 0) w) := Lib.hid ⟨World.ownsRow_nil _ _ _ _, Below.refl _ _⟩
  clear hL hD hA hF hc hL2 hne
  obtain ⟨s0, hs1, hs2, hs3, hs4⟩ := info_parts infoS
  have HS := Lib.hid (And.intro hs1 (And.intro hs2 (And.intro hs3 hs4)))
  clear hs1 hs2 hs3 hs4
  go_enter Tryz.func27, Tryz.ntmps27
  go_wp2_with fail
  go_loopw [3, 4] (fun o i wr => ∃ a : Nat, a ≤ nd ∧ i = .int .i64 a ∧ Hid (Ad1 vs w (off ne a) o wr)) (fun _ i _ => nd - (intOf i).toNat)
  case atStart => exact ⟨0, by omega, rfl, H0⟩
  case round =>
    obtain ⟨a, ha, rfl, HP⟩ := hrel
    by_cases hlt : a < nd
    · have hlt2 : (a : Int) < (nd : Int) := by omega
      obtain ⟨X, cX, hdv⟩ := HDV.out a hlt
      have HV := Lib.hid hdv
      have HCA : Hid (∀ W, Below w.heap.size w W → ∃ ga, A = some ⟨ga, 0, none⟩ ∧ W.cell? ⟨ga, a, none⟩ = some (.slice X (ne a) cX)) := Lib.hid (fun W hW => by
        obtain ⟨ga, e1, _, _, hcl⟩ := own_cell (HLL.out W hW) hlt
        exact ⟨ga, e1, by rw [← hdv]; exact hcl a _ (by simp [hlt])⟩)
      have hnea := HNE.out a hlt
      clear hdv
      go_wp2_with fail
      go_loopw [3, 5] (fun o i wr => ∃ k : Nat, k ≤ ne a ∧ i = .int .i64 k ∧ Hid (Ad1 vs w (off ne a + k) o wr)) (fun _ i _ => ne a - (intOf i).toNat)
      case atStart => exact ⟨0, by omega, rfl, HP⟩
      case round =>
        obtain ⟨k, hk, rfl, HQ⟩ := hrel
        obtain ⟨ga, rfl, hca⟩ := HCA.out _ HQ.out.below
        by_cases hlk : k < ne a
        · have hlk2 : (k : Int) < (ne a : Int) := by omega
          have hm := off_lt (ne := ne) hlt hlk
          obtain ⟨al, ll, cl, el⟩ := HVS.out _ hm
          obtain ⟨ge, ce, cur, eX, hb, hx⟩ := own_at_blk (HDD.out _ HQ.out.below a hlt) (by omega)
          rw [HV.out] at eX
          injection eX with eX1 _ eX2
          subst eX1 eX2
          have hce : wr.cell? ⟨ge, k * 3 + 2, none⟩ = some (.slice al ll cl) := by rw [← el]; exact (hb.cell _).trans (hx _ _ (HCC.out a k hlt hlk))
          obtain ⟨ao, co, hao⟩ := own_slice HQ.out.more
          subst hao
          have hown := HQ.out.more.alloc (.cells #[.slice al ll cl] 55)
          obtain ⟨hi1, hi2, hi3, hi4⟩ := HS.out
          have hbs := HQ.out.below.size
          have hof1 : off ne a + k ≤ 40000000 := by omega
          clear hb hx
          go_wp2_with (at_builtin; refine wpList_append_two _ rfl (.tmp 26) (.tmp 36) 63 rfl w.heap.size 55 s0 _ 1 24 Tryz.underlying63 hi1 hi2 hi3 hi4 rfl (by decide) _ _ _ rfl hown ⟨wr.heap.size, 0, none⟩ 1 1 [.slice al ll cl] rfl rfl ?d1 ?d2 (by decide) ?d3 ?d4 ?d5 ?_)
          case d2 => rfl
          case d3 => unfold maxLen; omega
          case d4 => omega
          case d5 => omega
          intro m' w' ho hg _
          have HN := Lib.hid (HQ.out.next (o := .cells #[.slice al ll cl] 55) (by rw [el]; exact ho) hg)
          clear ho hg hown hi1 hi2 hi3 hi4 el
          go_wp2_with fail
          go_roundw
          case rel => exact ⟨k + 1, by omega, by go_num, HN⟩
          case measure => simp [intOf]; omega
        · obtain rfl : k = ne a := by omega
          go_wp2_with fail
          go_roundw
          case rel => exact ⟨a + 1, by omega, by go_num, HQ⟩
          case measure => simp [intOf]; omega
    · obtain rfl : nd = a := by omega
      obtain ⟨ao, co, hao⟩ := own_slice HP.out.more
      subst hao
      have hbs := HP.out.below.size
      have HQA := Lib.hid (apart_any _ (off ne nd) w.heap.size N vs xs0 wr HP.out.more (HFF.out _ HP.out.below) HL2.out (by omega) (by omega))
      have HWB := Lib.hid HP.out.below
      have hNI : Hid (∀ g, g < N → ¬ InRows (off ne nd) vs g) := Lib.hid (fun g hg ⟨j, hj, he⟩ => by have := (((HFF.out w (Below.refl _ _)).ent j hj).v.lt g he).1; omega)
      have HDW : Hid (∀ W, But (InRows (off ne nd) vs) wr W → Ad3 B N nd (.slice A nd cA) dv ne w 0 0 W) := Lib.hid (fun W hW => by
        refine ⟨⟨cs, fun j hj => own_keep (HDD.out _ HWB.out j hj) fun g hg => hW.block g ((HDD.out _ HWB.out j hj).lt g hg).2 ?_, fun j q hj hq hl => by omega⟩, own_keep (HLL.out _ HWB.out) fun g hg => hW.block g ((HLL.out _ HWB.out).lt g hg).2 ?_, ?_⟩
        · rintro ⟨i, hi, he⟩
          rcases own_own_ne (HDD.out _ HWB.out j hj) ((HFF.out _ HWB.out).ent i hi).v (by decide) with h | h
          · rw [h] at hg; cases hg
          · exact h (hg.trans he.symm)
        · rintro ⟨i, hi, he⟩
          rcases own_own_ne (HLL.out _ HWB.out) ((HFF.out _ HWB.out).ent i hi).v (by decide) with h | h
          · rw [h] at hg; cases hg
          · exact h (hg.trans he.symm)
        · exact (HWB.out.mono (B' := N) hN).trans (hW.below (by omega) hNI.out))
      clear HP
      go_wp2_with fail
      refine HQA.out.mono ?_
      rintro e W2 ⟨rfl, hbut⟩
      have H3 := Lib.hid (HDW.out W2 hbut)
      clear hbut HQA HDW hNI HWB
      go_wp2_with fail
      go_loopw [6] (fun i wr => ∃ a : Nat, a ≤ nd ∧ i = .int .i64 a ∧ Hid (Ad3 B N nd (.slice A nd cA) dv ne w a 0 wr)) (fun i _ => nd - (intOf i).toNat)
      case atStart => exact ⟨0, by omega, rfl, H3⟩
      case round =>
        obtain ⟨a, ha, rfl, HP⟩ := hrel
        by_cases hlt : a < nd
        · have hlt2 : (a : Int) < (nd : Int) := by omega
          obtain ⟨X, cX, hdv⟩ := HDV.out a hlt
          have HV := Lib.hid hdv
          have hnea := HNE.out a hlt
          have HCA : Hid (∀ k' W, Ad3 B N nd (.slice A nd cA) dv ne w a k' W → ∃ ga, A = some ⟨ga, 0, none⟩ ∧ B ≤ ga ∧ ga < W.heap.size ∧ W.cell? ⟨ga, a, none⟩ = some (.slice X (ne a) cX)) := Lib.hid (fun k' W hW => by
            obtain ⟨ga, e1, h1, h2, hcl⟩ := own_cell hW.lst hlt
            exact ⟨ga, e1, h1, h2, by rw [← hdv]; exact hcl a _ (by simp [hlt])⟩)
          clear hdv
          obtain ⟨ga, rfl, _, _, hca⟩ := HCA.out _ _ HP.out
          go_wp2_with fail
          go_loopw [7] (fun i wr => ∃ k : Nat, k ≤ ne a ∧ i = .int .i64 k ∧ Hid (Ad3 B N nd (.slice (some ⟨ga, 0, none⟩) nd cA) dv ne w a k wr)) (fun i _ => ne a - (intOf i).toNat)
          case atStart => exact ⟨0, by omega, rfl, HP⟩
          case round =>
            clear hca
            obtain ⟨k, hk, rfl, HQ⟩ := hrel
            obtain ⟨gq, e', hgB, hglt, hca⟩ := HCA.out _ _ HQ.out
            injection e' with e'
            injection e' with e' _
            subst e'
            by_cases hlk : k < ne a
            · have hlk2 : (k : Int) < (ne a : Int) := by omega
              obtain ⟨ge, ce, eX, hge1, hge2, ⟨u0, u1, u2, c0, c1, c2⟩, hfe⟩ := HQ.out.ent hlt hlk
              have eX' := HV.out.symm.trans eX
              injection eX' with eX1 _ eX2
              subst eX1 eX2
              have HEX := Lib.hid eX
              have h1 : IntKind.i64.wrap (1000 * (a : Int)) = 1000 * (a : Int) := IntWalk.i64_in _ (by omega)
              have h2 : IntKind.i64.wrap (1000 * (a : Int) + (k : Int)) = ((1000 * a + k : Nat) : Int) := by rw [IntWalk.i64_in _ (by omega)]; omega
              have HNW := Lib.hid (HQ.out.below.size)
              have hnk : 1000 * a + k < 16777216 := by omega
              clear eX
              go_upto_region 17 with fail
              refine wp_region_held_drew (S := fun V => V.cell? ⟨ga, a, none⟩ = some (.slice (some ⟨ge, 0, none⟩) (ne a) cX)) (by kernel_rfl) (by have := hca; go_simp) (fun hSt0 => ?_)
              refine' wpAnyH_take (i := 0) (v := _) (by simp only [List.getElem?_toArray, List.getElem?_cons_zero]; rfl) (by kernel_rfl) (by kernel_rfl) (by kernel_rfl) (by exact fun _ _ _ h => h) (Or.inl ⟨by rfl, ?hyt0⟩) hSt0 ?restt0
              case hyt0 => intro V hSw; clear hSw; go_simp; try with_reducible rfl
              try simp only [Act.put, List.setIfInBounds_toArray, List.set_cons_zero, List.set_cons_succ]
              refine' wpAnyH_take (i := 1) (v := _) (by simp only [List.getElem?_toArray, List.getElem?_cons_succ, List.getElem?_cons_zero]; rfl) (by kernel_rfl) (by kernel_rfl) (by kernel_rfl) (by exact fun _ _ _ h => h) (Or.inl ⟨by rfl, ?hyt1⟩) hSt0 ?restt1
              case hyt1 => intro V hSw; clear hSw; go_simp; try with_reducible rfl
              try simp only [Act.put, List.setIfInBounds_toArray, List.set_cons_zero, List.set_cons_succ]
              refine' wpAnyH_take (i := 2) (v := _) (by simp only [List.getElem?_toArray, List.getElem?_cons_succ, List.getElem?_cons_zero]; rfl) (by kernel_rfl) (by kernel_rfl) (by kernel_rfl) (by exact fun _ _ _ h => h) (Or.inl ⟨by rfl, ?hyt2⟩) hSt0 ?restt2
              case hyt2 => intro V hSw; clear hSw; go_simp; try with_reducible rfl
              try simp only [Act.put, List.setIfInBounds_toArray, List.set_cons_zero, List.set_cons_succ]
              refine' wpAnyH_take (i := 3) (v := _) (by simp only [List.getElem?_toArray, List.getElem?_cons_succ, List.getElem?_cons_zero]; rfl) (by kernel_rfl) (by kernel_rfl) (by kernel_rfl) (by exact fun _ _ _ h => h) (Or.inl ⟨by rfl, ?hyt3⟩) hSt0 ?restt3
              case hyt3 => intro V hSw; clear hSw; go_simp; try with_reducible rfl
              try simp only [Act.put, List.setIfInBounds_toArray, List.set_cons_zero, List.set_cons_succ]
              refine' wpAnyH_take (i := 4) (v := _) (by simp only [List.getElem?_toArray, List.getElem?_cons_succ, List.getElem?_cons_zero]; rfl) (by kernel_rfl) (by kernel_rfl) (by kernel_rfl) (by exact fun _ _ _ h => h) (Or.inl ⟨by rfl, ?hyt4⟩) hSt0 ?restt4
              case hyt4 => intro V hSw; have fq := hSw; clear hSw; go_simp; try with_reducible rfl
              try simp only [Act.put, List.setIfInBounds_toArray, List.set_cons_zero, List.set_cons_succ]
              refine' wpAnyH_take (i := 5) (v := _) (by simp only [List.getElem?_toArray, List.getElem?_cons_succ, List.getElem?_cons_zero]; rfl) (by kernel_rfl) (by kernel_rfl) (by kernel_rfl) (by exact fun _ _ _ h => h) (Or.inl ⟨by rfl, ?hyt5⟩) hSt0 ?restt5
              case hyt5 => intro V hSw; clear hSw; go_simp; try with_reducible rfl
              try simp only [Act.put, List.setIfInBounds_toArray, List.set_cons_zero, List.set_cons_succ]
              refine' wpAnyH_take (i := 6) (v := _) (by simp only [List.getElem?_toArray, List.getElem?_cons_succ, List.getElem?_cons_zero]; rfl) (by kernel_rfl) (by kernel_rfl) (by kernel_rfl) (by exact fun _ _ _ h => h) (Or.inl ⟨by rfl, ?hyt6⟩) hSt0 ?restt6
              case hyt6 => intro V hSw; clear hSw; go_simp; try with_reducible rfl
              try simp only [Act.put, List.setIfInBounds_toArray, List.set_cons_zero, List.set_cons_succ]
              refine' wpAnyH_take (i := 7) (v := _) (by simp only [List.getElem?_toArray, List.getElem?_cons_succ, List.getElem?_cons_zero]; rfl) (by kernel_rfl) (by kernel_rfl) (by kernel_rfl) (by exact fun _ _ _ h => h) (Or.inl ⟨by rfl, ?hyt7⟩) hSt0 ?restt7
              case hyt7 => intro V hSw; clear hSw; go_simp; try with_reducible rfl
              try simp only [Act.put, List.setIfInBounds_toArray, List.set_cons_zero, List.set_cons_succ]
              refine' wpAnyH_take (i := 8) (v := _) (by simp only [List.getElem?_toArray, List.getElem?_cons_succ, List.getElem?_cons_zero]; rfl) (by kernel_rfl) (by kernel_rfl) (by kernel_rfl) (by exact fun _ _ _ h => h) (Or.inl ⟨by rfl, ?hyt8⟩) hSt0 ?restt8
              case hyt8 => intro V hSw; clear hSw; go_simp; try with_reducible rfl
              try simp only [Act.put, List.setIfInBounds_toArray, List.set_cons_zero, List.set_cons_succ]
              refine' wpAnyH_take (i := 9) (v := _) (by simp only [List.getElem?_toArray, List.getElem?_cons_succ, List.getElem?_cons_zero]; rfl) (by kernel_rfl) (by kernel_rfl) (by kernel_rfl) (by exact fun _ _ _ h => h) (Or.inl ⟨by rfl, ?hyt9⟩) hSt0 ?restt9
              case hyt9 => intro V hSw; clear hSw; go_simp; try with_reducible rfl
              try simp only [Act.put, List.setIfInBounds_toArray, List.set_cons_zero, List.set_cons_succ]
              refine wpAnyH_ready (rs := [10]) (by kernel_rfl) (by simp) ?_
              refine' AllReadyH.cons (by simp only [List.getElem?_toArray, List.getElem?_cons_succ, List.getElem?_cons_zero]; rfl) (fun K hK => ?_) AllReadyH.nil
              go_simp
              refine (kitText_any (1000 * a + k) _ hnk).mono ?_
              rintro e V ⟨rfl, hb⟩
              have HBV : Hid (Below wr.heap.size wr V) := Lib.hid ((Below.refl _ wr).drew.trans hb)
              have hcV : V.cell? ⟨ga, a, none⟩ = some (.slice (some ⟨ge, 0, none⟩) (ne a) cX) := (HBV.out.cell (p := ⟨ga, a, none⟩) hglt).trans hca
              have hfV : V.frozen? ⟨ge, k * 3, none⟩ = false := (HBV.out.frozen (p := ⟨ge, k * 3, none⟩) hge2).trans (hfe _)
              have hfV1 : V.frozen? ⟨ge, k * 3 + 1, none⟩ = false := (HBV.out.frozen (p := ⟨ge, k * 3 + 1, none⟩) hge2).trans (hfe _)
              have hfV2 : V.frozen? ⟨ge, k * 3 + 2, none⟩ = false := (HBV.out.frozen (p := ⟨ge, k * 3 + 2, none⟩) hge2).trans (hfe _)
              have d0 : V.cell? ⟨ge, k * 3, none⟩ = some u0 := (HBV.out.cell (p := ⟨ge, k * 3, none⟩) hge2).trans c0
              have d1 : V.cell? ⟨ge, k * 3 + 1, none⟩ = some u1 := (HBV.out.cell (p := ⟨ge, k * 3 + 1, none⟩) hge2).trans c1
              have d2 : V.cell? ⟨ge, k * 3 + 2, none⟩ = some u2 := (HBV.out.cell (p := ⟨ge, k * 3 + 2, none⟩) hge2).trans c2
              clear hb c0 c1 c2 hfe hca
              go_simp
              refine hK.out _ _ hcV (fun hSt1 => ?_)
              clear hK K
              try simp only [Act.put, List.setIfInBounds_toArray, List.set_cons_zero, List.set_cons_succ]
              refine' wpAnyH_take (i := 11) (v := _) (by simp only [List.getElem?_toArray, List.getElem?_cons_succ, List.getElem?_cons_zero]; rfl) (by kernel_rfl) (by kernel_rfl) (by kernel_rfl) (by exact fun _ _ _ h => h) (Or.inl ⟨by rfl, ?hyt11⟩) hSt1 ?restt11
              case hyt11 => intro V hSw; clear hSw; go_simp; try with_reducible rfl
              try simp only [Act.put, List.setIfInBounds_toArray, List.set_cons_zero, List.set_cons_succ]
              refine' wpAnyH_take (i := 12) (v := _) (by simp only [List.getElem?_toArray, List.getElem?_cons_succ, List.getElem?_cons_zero]; rfl) (by kernel_rfl) (by kernel_rfl) (by kernel_rfl) (by exact fun _ _ _ h => h) (Or.inl ⟨by rfl, ?hyt12⟩) hSt1 ?restt12
              case hyt12 => intro V hSw; clear hSw; go_simp; try with_reducible rfl
              try simp only [Act.put, List.setIfInBounds_toArray, List.set_cons_zero, List.set_cons_succ]
              refine wpAnyH_ready (rs := [13]) (by kernel_rfl) (by simp) ?_
              refine' AllReadyH.cons (by simp only [List.getElem?_toArray, List.getElem?_cons_succ, List.getElem?_cons_zero]; rfl) (fun K hK => ?_) AllReadyH.nil
              go_simp
              have hne3 : ga ≠ ge := Ad3.list_ne HQ.out hlt HEX.out
              have HQ3 := Lib.hid ((HQ.out.on (by have := HNW.out; omega) HBV.out).step HAA.out hlt HEX.out hge1 hlk (.string ⟨#[]⟩) (.slice none 0 0))
              refine hK.out _ _ ?hs (fun hSt2 => ?_)
              case hs => exact (World.cell?_of_block (by rw [Below.heap_setCell _ _ _ _ hne3, Below.heap_setCell _ _ _ _ hne3, Below.heap_setCell _ _ _ _ hne3])).trans hcV
              clear hK K hSt0 hSt1 hSt2
              refine wpAnyH_done (by kernel_rfl) ?_ _
              clear hcV hfV hfV1 hfV2 d0 d1 d2
              go_wp2_with fail
              go_roundw
              case rel => exact ⟨k + 1, by omega, by go_num, HQ3⟩
              case measure => simp [intOf]; omega
            · obtain rfl : k = ne a := by omega
              have HS2 := Lib.hid (HQ.out.next (Nat.le_refl _))
              go_wp2_with fail
              go_roundw
              case rel => exact ⟨a + 1, by omega, by go_num, HS2⟩
              case measure => simp [intOf]; omega
        · obtain rfl : nd = a := by omega
          have HRD := Lib.hid (fun (j q : Nat) (hj : j < nd) (hq : q < ne j) => HP.out.read hj hq)
          have HRL := Lib.hid (fun (j : Nat) (hj : j < nd) => HP.out.doc hj)
          have HBW := Lib.hid HP.out.below
          clear HP
          obtain ⟨wo, rfl⟩ : ∃ wo : World, wo = wr := ⟨_, rfl⟩
          go_wp2_with fail
          go_loopw [8] (fun i wq => ∃ a : Nat, a ≤ nd ∧ i = .int .i64 a ∧ Hid (Below wo.heap.size wo wq)) (fun i _ => nd - (intOf i).toNat)
          case atStart => exact ⟨0, by omega, rfl, Lib.hid (Below.refl _ _)⟩
          case round =>
            obtain ⟨b, hb, rfl, HW⟩ := hrel
            have HWL : Hid (∀ (j : Nat) (hj : j < nd) W, Below wo.heap.size wo W → ∃ gl, A = some ⟨gl, 0, none⟩ ∧ W.cell? ⟨gl, j, none⟩ = some (dv j)) := Lib.hid (fun j hj W hW => by
              obtain ⟨gl, ⟨c, e1⟩, e2⟩ := HRL.out j hj
              injection e1 with e1 _ _
              exact ⟨gl, e1, ((hW.cell (p := ⟨gl, j, none⟩) (lt_of_cell e2)).trans e2)⟩)
            by_cases hltb : b < nd
            · have hlt2 : (b : Int) < (nd : Int) := by omega
              obtain ⟨X, cX, hdv⟩ := HDV.out b hltb
              have HV := Lib.hid hdv
              have hneb := HNE.out b hltb
              obtain ⟨ga, rfl, hca⟩ := HWL.out b hltb _ HW.out
              have HCA : Hid (∀ W, Below wo.heap.size wo W → W.cell? ⟨ga, b, none⟩ = some (.slice X (ne b) cX)) := Lib.hid (fun W hW => by
                obtain ⟨gl, e1, e2⟩ := HWL.out b hltb _ hW
                injection e1 with e1
                injection e1 with e1 _
                subst e1
                rw [e2, hdv])
              rw [hdv] at hca
              clear hdv
              go_wp2_with fail
              go_loopw [9] (fun i wq => ∃ k : Nat, k ≤ ne b ∧ i = .int .i64 k ∧ Hid (Below wo.heap.size wo wq)) (fun i _ => ne b - (intOf i).toNat)
              case atStart => exact ⟨0, by omega, rfl, HW⟩
              case round =>
                clear hca
                obtain ⟨k, hk, rfl, HZ⟩ := hrel
                have hca := HCA.out _ HZ.out
                by_cases hlk : k < ne b
                · have hlk2 : (k : Int) < (ne b : Int) := by omega
                  obtain ⟨ge, ce, eX, hce⟩ := HRD.out b k hltb hlk
                  have eX' := HV.out.symm.trans eX
                  injection eX' with eX1 _ eX2
                  subst eX1 eX2
                  replace hce := (HZ.out.cell (p := ⟨ge, k * 3, none⟩) (lt_of_cell hce)).trans hce
                  have h1 : IntKind.i64.wrap (1000 * (b : Int)) = 1000 * (b : Int) := IntWalk.i64_in _ (by omega)
                  have h2 : IntKind.i64.wrap (1000 * (b : Int) + (k : Int)) = ((1000 * b + k : Nat) : Int) := by rw [IntWalk.i64_in _ (by omega)]; omega
                  have HVL := Lib.hid (fun W => kitValue_any (1000 * b + k) W (by omega))
                  have HV2 := Lib.hid eX
                  clear eX
                  go_wp2_with fail
                  refine (HVL.out _).mono ?_
                  rintro e W3 ⟨rfl, hb3⟩
                  have HZ3 := Lib.hid (HZ.out.trans (hb3.mono HZ.out.size))
                  clear hb3 hce hca
                  go_wp2_with fail
                  go_roundw
                  case rel => exact ⟨k + 1, by omega, by go_num, HZ3⟩
                  case measure => simp [intOf]; omega
                · obtain rfl : k = ne b := by omega
                  go_wp2_with fail
                  go_roundw
                  case rel => exact ⟨b + 1, by omega, by go_num, HZ⟩
                  case measure => simp [intOf]; omega
            · obtain rfl : nd = b := by omega
              go_wp2_with fail
              go_ret
              exact ⟨rfl, HBW.out.trans (HW.out.mono (by have := HBW.out.size; omega))⟩
end Go.Proofs.YtfckomjbgopmaaaGreatDoor.Sch
end
