/- Contract: kit.ApartInt64s: rows of numbers that lie apart are found so; nothing but them is written over. -/
import Derived.Test.YtfckomjbgopmaaaGreatDoorPack15
import Derived.Test.YtfckomjbgopmaaaGreatDoorApart
set_option linter.unusedVariables false
namespace Go.Proofs.YtfckomjbgopmaaaGreatDoor.Sch
open Go.RowKit Words Tree SchP Kit Owned AnaP

def mkA (j q : Nat) : Value := .int .i64 (1000 * (j : Int) + (q : Int))
def mkB (j q : Nat) : Value := .int .i64 (500000 + 1000 * (j : Int) + (q : Int))
/-- The blocks of the rows. -/
def InRows (n : Nat) (vs : Nat → Value) (g : Nat) : Prop := ∃ j, j < n ∧ (vs j).ownBlock = some g
/-- What holds while the rows are written over. -/
structure Ap1 (N n : Nat) (vs : Nat → Value) (L : Nat → Nat) (w : World) (i k : Nat) (wr : World) : Prop where
  out : ∃ xs, Fam 2 N wr n vs vs xs (fun _ => []) ∧ (∀ j, j < n → (xs j).length = L j) ∧ ∀ j q, j < n → (j < i ∨ (j = i ∧ q < k)) → q < L j → (xs j)[q]? = some (mkA j q)
  but : But (InRows n vs) w wr
theorem Ap1.next {N n : Nat} {vs : Nat → Value} {L : Nat → Nat} {w wr : World} {i k : Nat} (h : Ap1 N n vs L w i k wr) (hk : L i ≤ k) : Ap1 N n vs L w (i + 1) 0 wr := by
  obtain ⟨xs, h1, h2, h3⟩ := h.out
  exact ⟨⟨xs, h1, h2, fun j q hj hq hl => h3 j q hj (by
    rcases hq with hq | ⟨_, hq⟩
    · rcases Nat.lt_or_ge j i with h' | h'
      · exact .inl h'
      · obtain rfl : j = i := by omega
        exact .inr ⟨rfl, by omega⟩
    · omega) hl⟩, h.but⟩
theorem Ap1.step {N n : Nat} {vs : Nat → Value} {L : Nat → Nat} {w wr : World} {i k g cap : Nat} (h : Ap1 N n vs L w i k wr) (hi : i < n) (hk : k < L i) (hv : vs i = .slice (some ⟨g, 0, none⟩) (L i) cap) : Ap1 N n vs L w i (k + 1) (wr.setCell ⟨g, k, none⟩ (mkA i k)) := by
  obtain ⟨xs, h1, h2, h3⟩ := h.out
  refine ⟨⟨_, h1.set hi (by rw [h2 i hi]; exact hv) (by rw [h2 i hi]; exact hk) (mkA i k), fun j hj => ?_, fun j q hj hq hl => ?_⟩, h.but.set (p := ⟨g, k, none⟩) (.inl ⟨i, hi, by rw [hv]; rfl⟩) _⟩
  · by_cases hji : j = i
    · subst hji; rw [upd_same, List.length_set]; exact h2 j hj
    · rw [upd_ne _ _ hji]; exact h2 j hj
  · by_cases hji : j = i
    · subst hji
      rw [upd_same, List.getElem?_set]
      split
      · rename_i e; subst e; rw [if_pos (by rw [h2 j hj]; exact hl)]
      · exact h3 j q hj (.inr ⟨rfl, by omega⟩) hl
    · rw [upd_ne _ _ hji]
      exact h3 j q hj (.inl (by omega)) hl
theorem Ap1.cell {N n : Nat} {vs : Nat → Value} {L : Nat → Nat} {w wr : World} {i k : Nat} (h : Ap1 N n vs L w i k wr) {j q : Nat} (hj : j < n) (hq : q < L j) : ∃ g cap, vs j = .slice (some ⟨g, 0, none⟩) (L j) cap ∧ (∃ u, wr.cell? ⟨g, q, none⟩ = some u) ∧ wr.frozen? ⟨g, q, none⟩ = false := by
  obtain ⟨xs, h1, h2, h3⟩ := h.out
  have ho := (h1.ent j hj).v
  rw [h2 j hj] at ho
  obtain ⟨g, cap, cur, hv, hb, hx⟩ := own_at_blk ho (by omega)
  have hxl : q < (xs j).length := by rw [h2 j hj]; exact hq
  exact ⟨g, cap, hv, ⟨_, (hb.cell q).trans (hx q _ (List.getElem?_eq_getElem hxl))⟩, hb.frozen q⟩

theorem infoN : (Tryz.prog.info? 2).map (fun i => (i.zero, i.size, i.bytes)) = some (some (.int .i64 0), 1, 8) := by kernel_rfl
theorem infoS : (Tryz.prog.info? 55).map (fun i => (i.zero, i.size, i.bytes)) = some (some (.slice none 0 0), 1, 24) := by kernel_rfl
/-- What is put behind a row. -/
def extA (j k : Nat) : List Value := (List.range k).map (mkB j)
theorem extA_len (j k : Nat) : (extA j k).length = k := by simp [extA]
theorem extA_succ (j k : Nat) : extA j (k + 1) = extA j k ++ [mkB j k] := by simp [extA, List.range_succ]
/-- What holds while the rows are gone on with. -/
structure Ap2 (N n : Nat) (vs : Nat → Value) (X : Nat → List Value) (w : World) (i k : Nat) (ms : Nat → Value) (ys : Nat → List Value) (mo : Value) (wr : World) : Prop where
  fam : Fam 2 N wr n vs ms X ys
  done : ∀ j, j < i → ys j = extA j 30
  now : i < n → ys i = extA i k
  later : ∀ j, (i < j ∨ (j = i ∧ k = 0)) → j < n → ms j = vs j ∧ ys j = []
  more : wr.ownsRow w.heap.size 55 1 mo i ((List.range i).map ms)
  news : ∀ j, j < n → ∀ g, (ms j).ownBlock = some g → InRows n vs g ∨ w.heap.size ≤ g
  but : But (InRows n vs) w wr
theorem range_upd (ms : Nat → Value) (i : Nat) (m : Value) : (List.range i).map (upd ms i m) = (List.range i).map ms :=
  List.map_congr_left fun j hj => upd_ne _ _ (by have := List.mem_range.1 hj; omega)
section
variable {N n : Nat} {vs : Nat → Value} {X : Nat → List Value} {w wr w' : World} {i k : Nat} {ms : Nat → Value} {ys : Nat → List Value} {mo : Value}
theorem Ap2.alloc (h : Ap2 N n vs X w i k ms ys mo wr) (o : Obj) : Ap2 N n vs X w i k ms ys mo (wr.alloc o) :=
  ⟨h.fam.alloc o, h.done, h.now, h.later, h.more.alloc o, h.news, h.but.alloc o⟩
theorem Ap2.own (h : Ap2 N n vs X w i k ms ys mo wr) (hi : i < n) : wr.ownsRow N 2 1 (ms i) ((X i).length + k) (X i ++ extA i k) := by
  have := (h.fam.ent i hi).m
  rw [h.now hi, extA_len] at this
  exact this
theorem Ap2.app (h : Ap2 N n vs X w i k ms ys mo wr) (hi : i < n) {m' : Value} (ho : w'.ownsRow N 2 1 m' ((X i).length + k + 1) ((X i ++ extA i k) ++ [mkB i k])) (hg : wr.grownBy w' (ms i).ownBlock)
    (h2 : (∃ g cap, ms i = .slice (some ⟨g, 0, none⟩) ((X i).length + k) cap ∧ m' = .slice (some ⟨g, 0, none⟩) ((X i).length + k + 1) cap) ∨ (m'.ownBlock = some wr.heap.size ∧ wr.grownBy w' none)) : Ap2 N n vs X w i (k + 1) (upd ms i m') (upd ys i (extA i (k + 1))) mo w' := by
  have hy := h.now hi
  have hyl : (ys i).length = k := by rw [hy, extA_len]
  have hmi := (h.fam.ent i hi).m
  refine ⟨?_, fun j hj => by rw [upd_ne _ _ (by omega)]; exact h.done j hj, fun _ => upd_same _ _ _, fun j hj hjn => by rw [upd_ne _ _ (by omega), upd_ne _ _ (by omega)]; exact h.later j (.inl (by omega)) hjn, ?_, fun j hj g hgj => ?_, ?_⟩
  · have := h.fam.app (w' := w') hi (m' := m') (u := mkB i k) (by rw [hy, extA_len]; exact ho) hg (by rw [hyl]; exact h2)
    rw [hy, ← extA_succ] at this
    exact this
  · rw [range_upd]
    exact own_keep h.more fun g hgm => hg.block g (h.more.lt g hgm).2 fun e => by
      rcases own_own_ne h.more hmi (by decide) with h' | h'
      · rw [h'] at hgm; cases hgm
      · exact h' (hgm.trans e)
  · by_cases hji : j = i
    · subst hji
      rw [upd_same] at hgj
      rcases h2 with ⟨g', cap, h3, h4⟩ | ⟨h3, _⟩
      · exact h.news j hj g (by rw [h3]; rw [h4] at hgj; exact hgj)
      · rw [h3] at hgj
        cases hgj
        exact .inr h.but.size
    · rw [upd_ne _ _ hji] at hgj
      exact h.news j hj g hgj
  · exact h.but.more (But.grown (N := fun g => (ms i).ownBlock = some g) hg fun r hr => hr) fun g hg' => h.news i hi g hg'
theorem Ap2.next (h : Ap2 N n vs X w i 30 ms ys mo wr) (hi : i < n) {mo' : Value} (ho : w'.ownsRow w.heap.size 55 1 mo' (i + 1) ((List.range i).map ms ++ [ms i])) (hg : wr.grownBy w' mo.ownBlock) : Ap2 N n vs X w (i + 1) 0 ms ys mo' w' := by
  refine ⟨h.fam.grown hg fun r hr => ?_, fun j hj => ?_, fun hi' => ?_, fun j hj hjn => h.later j (.inl (by omega)) hjn, by rw [List.range_succ, List.map_append]; exact ho, h.news, ?_⟩
  · rcases h.more.2 with ⟨e, _⟩ | ⟨g, cap, cur, e, _, hh, _⟩
    · rw [e] at hr; cases hr
    · rw [e] at hr
      have : g = r := by simpa [Value.ownBlock] using hr
      subst this
      exact ⟨_, _, hh, by decide⟩
  · rcases Nat.lt_or_ge j i with h' | h'
    · exact h.done j h'
    · obtain rfl : j = i := by omega
      exact h.now hi
  · rw [(h.later (i + 1) (.inl (by omega)) hi').2]; rfl
  · exact h.but.more (But.grown (N := fun g => mo.ownBlock = some g) hg fun r hr => hr) fun g hg' => .inr (h.more.lt g hg').1
end
theorem Ap2.start {N n : Nat} {vs : Nat → Value} {L : Nat → Nat} {w wr : World} (h : Ap1 N n vs L w n 0 wr) : ∃ X, (∀ j, j < n → (X j).length = L j) ∧ (∀ j q, j < n → q < L j → (X j)[q]? = some (mkA j q)) ∧ Ap2 N n vs X w 0 0 vs (fun _ => []) (.slice none 0 0) wr := by
  obtain ⟨xs, h1, h2, h3⟩ := h.out
  exact ⟨xs, h2, fun j q hj hq => h3 j q hj (.inl hj) hq, h1, fun j hj => by omega, fun _ => rfl, fun j _ _ => ⟨rfl, rfl⟩, World.ownsRow_nil _ _ _ _, fun j hj g hg => .inl ⟨j, hj, hg⟩, h.but⟩
/-- What is read at the end. -/
theorem Ap2.read {N n : Nat} {vs : Nat → Value} {X : Nat → List Value} {w wr : World} {ms : Nat → Value} {ys : Nat → List Value} {mo : Value} (h : Ap2 N n vs X w n 0 ms ys mo wr) {j q : Nat} (hj : j < n) : ∃ g cap, ms j = .slice (some ⟨g, 0, none⟩) ((X j).length + 30) cap ∧ ∀ q u, (X j ++ extA j 30)[q]? = some u → wr.cell? ⟨g, q, none⟩ = some u := by
  have ho := (h.fam.ent j hj).m
  rw [h.done j hj, extA_len] at ho
  obtain ⟨g, cap, cur, hv, hb, hx⟩ := own_at_blk ho (by omega)
  exact ⟨g, cap, hv, fun q u hu => (hb.cell q).trans (hx q u hu)⟩
theorem Ap2.readV {N n : Nat} {vs : Nat → Value} {X : Nat → List Value} {w wr : World} {ms : Nat → Value} {ys : Nat → List Value} {mo : Value} (h : Ap2 N n vs X w n 0 ms ys mo wr) {j q : Nat} (hj : j < n) (hq : q < (X j).length) : ∃ g cap, vs j = .slice (some ⟨g, 0, none⟩) (X j).length cap ∧ ∀ q u, (X j)[q]? = some u → wr.cell? ⟨g, q, none⟩ = some u := by
  obtain ⟨g, cap, cur, hv, hb, hx⟩ := own_at_blk (h.fam.ent j hj).v (by omega)
  exact ⟨g, cap, hv, fun q u hu => (hb.cell q).trans (hx q u hu)⟩

set_option maxRecDepth 100000 in
set_option maxHeartbeats 8000000 in
theorem apart_any (all : Value) (n B N : Nat) (vs : Nat → Value) (xs0 : Nat → List Value) (w : World) (hall : w.ownsRow B 55 1 all n ((List.range n).map vs)) (hf : Fam 2 N w n vs vs xs0 (fun _ => []))
    (hL : ∀ j, j < n → (xs0 j).length ≤ 4294967296) (hn : n ≤ 4294967296) (hN : N ≤ w.heap.size) :
    Calls Tryz.prog 28 #[all] w (fun e w' => e = .returned (.bool true) ∧ But (InRows n vs) w w') := by
  obtain ⟨A, cA, rfl⟩ := own_slice hall
  obtain ⟨L, hLd⟩ : ∃ L : Nat → Nat, L = fun j => (xs0 j).length := ⟨_, rfl⟩
  have HAL := Lib.hid (fun (W : World) (hW : But (InRows n vs) w W) => own_keep hall fun g hg => hW.block g (hall.lt g hg).2 (by
    rintro ⟨j, hj, he⟩
    rcases own_own_ne hall (hf.ent j hj).v (by decide) with h | h
    · rw [h] at hg; cases hg
    · exact h (hg.trans he.symm)))
  have HSL : Hid (∀ j, j < n → ∃ Aj cj, vs j = .slice Aj (L j) cj) := Lib.hid (fun j hj => by
    obtain ⟨a, c, h⟩ := own_slice (hf.ent j hj).v
    exact ⟨a, c, by rw [hLd]; exact h⟩)
  have HL : Hid (∀ j, j < n → L j ≤ 4294967296) := Lib.hid (fun j hj => by rw [hLd]; exact hL j hj)
  have H0 : Hid (Ap1 N n vs L w 0 0 w) := Lib.hid ⟨⟨xs0, hf, fun j _ => by rw [hLd], fun j q _ hq _ => by omega⟩, But.refl _ _⟩
  clear hall hf hL hLd
  go_enter Tryz.func28, Tryz.ntmps28
  go_wp2_with fail
  go_loopw [3] (fun i wr => ∃ a : Nat, a ≤ n ∧ i = .int .i64 a ∧ Hid (Ap1 N n vs L w a 0 wr)) (fun i _ => n - (intOf i).toNat)
  case atStart => exact ⟨0, by omega, rfl, H0⟩
  case round =>
    obtain ⟨a, ha, rfl, HP⟩ := hrel
    by_cases hlt : a < n
    · have hlt2 : (a : Int) < (n : Int) := by omega
      obtain ⟨Aj, cj, hvj⟩ := HSL.out a hlt
      have HVJ := Lib.hid hvj
      have HCC : Hid (∀ W, But (InRows n vs) w W → ∃ ga, A = some ⟨ga, 0, none⟩ ∧ W.cell? ⟨ga, a, none⟩ = some (.slice Aj (L a) cj)) := Lib.hid (fun W hW => by
        obtain ⟨ga, e1, _, _, hc⟩ := own_cell (HAL.out W hW) hlt
        exact ⟨ga, e1, by rw [← hvj]; exact hc a _ (by simp [hlt])⟩)
      have hLa := HL.out a hlt
      clear hvj
      go_wp2_with fail
      go_loopw [4] (fun i wr => ∃ k : Nat, k ≤ L a ∧ i = .int .i64 k ∧ Hid (Ap1 N n vs L w a k wr)) (fun i _ => L a - (intOf i).toNat)
      case atStart => exact ⟨0, by omega, rfl, HP⟩
      case round =>
        obtain ⟨k, hk, rfl, HQ⟩ := hrel
        obtain ⟨ga, rfl, hca⟩ := HCC.out _ HQ.out.but
        by_cases hlk : k < L a
        · have hlk2 : (k : Int) < (L a : Int) := by omega
          obtain ⟨g, cap, hvg, ⟨u, hcu⟩, hfu⟩ := HQ.out.cell hlt hlk
          have hh := HVJ.out.symm.trans hvg
          simp only [Value.slice.injEq, true_and] at hh
          obtain ⟨rfl, rfl⟩ := hh
          have HS := Lib.hid (HQ.out.step hlt hlk hvg)
          clear hvg
          have h1 : IntKind.i64.wrap (1000 * (a : Int)) = 1000 * (a : Int) := IntWalk.i64_in _ (by omega)
          have h2 : IntKind.i64.wrap (1000 * (a : Int) + (k : Int)) = 1000 * (a : Int) + (k : Int) := IntWalk.i64_in _ (by omega)
          go_wp2_with fail
          go_roundw
          case rel => exact ⟨k + 1, by omega, by go_num, HS⟩
          case measure => simp [intOf]; omega
        · obtain rfl : k = L a := by omega
          have HS := Lib.hid (HQ.out.next (Nat.le_refl _))
          go_wp2_with fail
          go_roundw
          case rel => exact ⟨a + 1, by omega, by go_num, HS⟩
          case measure => simp [intOf]; omega
    · obtain rfl : n = a := by omega
      obtain ⟨X, hX1, hX2, h20⟩ := Ap2.start HP.out
      have HX1 := Lib.hid hX1; have HX2 := Lib.hid hX2; have H20 := Lib.hid h20
      clear hX1 hX2 h20 HP
      obtain ⟨i0, hi1, hi2, hi3, hi4⟩ := info_parts infoN
      obtain ⟨s0, hs1, hs2, hs3, hs4⟩ := info_parts infoS
      have HI := Lib.hid (And.intro hi1 (And.intro hi2 (And.intro hi3 hi4)))
      have HS := Lib.hid (And.intro hs1 (And.intro hs2 (And.intro hs3 hs4)))
      clear hi1 hi2 hi3 hi4 hs1 hs2 hs3 hs4
      go_wp2_with fail
      go_loopw [5, 6] (fun o i wr => ∃ (b : Nat) (ms : Nat → Value) (ys : Nat → List Value), b ≤ n ∧ i = .int .i64 b ∧ Hid (Ap2 N n vs X w b 0 ms ys o wr)) (fun _ i _ => n - (intOf i).toNat)
      case atStart => exact ⟨0, _, _, by omega, rfl, H20⟩
      case round =>
        obtain ⟨b, ms, ys, hb, rfl, HP⟩ := hrel
        obtain ⟨Ao, co, hao⟩ := own_slice HP.out.more
        subst hao
        by_cases hltb : b < n
        · have hlt2 : (b : Int) < (n : Int) := by omega
          obtain ⟨ga, rfl, hca⟩ : ∃ ga, A = some ⟨ga, 0, none⟩ ∧ wr.cell? ⟨ga, b, none⟩ = some (vs b) := by
            obtain ⟨ga, e1, _, _, hc⟩ := own_cell (HAL.out _ HP.out.but) hltb
            exact ⟨ga, e1, hc b _ (by simp [hltb])⟩
          rw [← (HP.out.later b (.inr ⟨rfl, rfl⟩) hltb).1] at hca
          go_wp2_with fail
          go_loopw [7, 8] (fun l i wr => ∃ (k : Nat) (ms : Nat → Value) (ys : Nat → List Value), k ≤ 30 ∧ i = .int .i64 k ∧ l = ms b ∧ Hid (Ap2 N n vs X w b k ms ys (.slice Ao b co) wr)) (fun _ i _ => 30 - (intOf i).toNat)
          case atStart => exact ⟨0, _, _, by omega, rfl, rfl, HP⟩
          case round =>
            clear hca
            obtain ⟨k, ms, ys, hk, rfl, rfl, HQ⟩ := hrel
            by_cases hlk : k < 30
            · have hlk2 : (k : Int) < 30 := by omega
              have hXl := HX1.out b hltb
              have hLb := HL.out b hltb
              have h1 : IntKind.i64.wrap (1000 * (b : Int)) = 1000 * (b : Int) := IntWalk.i64_in _ (by omega)
              have h2 : IntKind.i64.wrap (500000 + 1000 * (b : Int)) = 500000 + 1000 * (b : Int) := IntWalk.i64_in _ (by omega)
              have h3 : IntKind.i64.wrap (500000 + 1000 * (b : Int) + (k : Int)) = 500000 + 1000 * (b : Int) + (k : Int) := IntWalk.i64_in _ (by omega)
              have hown := (HQ.out.alloc (.cells #[mkB b k] 2)).own hltb
              obtain ⟨hi1, hi2, hi3, hi4⟩ := HI.out
              have hNw : N ≤ wr.heap.size + 1 := by have := HQ.out.but.size; omega
              go_wp2_with (at_builtin; refine wpList_append_two _ rfl (.tmp 52) (.tmp 58) 55 rfl N 2 i0 _ 1 8 Tryz.underlying55 hi1 hi2 hi3 hi4 rfl (by decide) (ms b) _ _ rfl hown ⟨wr.heap.size, 0, none⟩ 1 1 [mkB b k] rfl rfl ?d1 ?d2 (by decide) ?d3 ?d4 ?d5 ?_)
              case d1 => exact World.news_of_block (Blk.new wr _ _)
              case d2 => intro u hu; simp only [List.mem_cons, List.not_mem_nil, or_false] at hu; subst hu; rfl
              case d3 => unfold maxLen; omega
              case d4 => omega
              case d5 => simpa using hNw
              intro m' w' ho hg h2'
              have HN := Lib.hid ((HQ.out.alloc (.cells #[mkB b k] 2)).app hltb (by rw [hXl, List.append_assoc]; exact ho) hg (by rw [hXl]; simpa [mkB] using h2'))
              clear ho hg h2' hown hi1 hi2 hi3 hi4
              go_wp2_with fail
              go_roundw
              case rel => exact ⟨k + 1, _, _, by omega, by go_num, (upd_same _ _ _).symm, HN⟩
              case measure => simp [intOf]; omega
            · have hk30 : k = 30 := by omega
              have hge : ¬ (k : Int) < 30 := by omega
              have HQ : Hid (Ap2 N n vs X w b 30 ms ys (.slice Ao b co) wr) := by rw [← hk30]; exact HQ
              obtain ⟨al, cl, el⟩ := own_slice (HQ.out.own hltb)
              rw [el]
              have hown := (HQ.out.alloc (.cells #[.slice al ((X b).length + 30) cl] 55)).more
              obtain ⟨hi1, hi2, hi3, hi4⟩ := HS.out
              have hbs := HQ.out.but.size
              go_wp2_with (at_builtin; refine wpList_append_two _ rfl (.tmp 60) (.tmp 62) 63 rfl w.heap.size 55 s0 _ 1 24 Tryz.underlying63 hi1 hi2 hi3 hi4 rfl (by decide) _ _ _ rfl hown ⟨wr.heap.size, 0, none⟩ 1 1 [.slice al ((X b).length + 30) cl] rfl rfl ?d1 ?d2 (by decide) ?d3 ?d4 ?d5 ?_)
              case d2 => rfl
              case d3 => unfold maxLen; omega
              case d4 => omega
              case d5 => omega
              intro m' w' ho hg _
              have HN := Lib.hid ((HQ.out.alloc (.cells #[.slice al ((X b).length + 30) cl] 55)).next hltb (by rw [el]; exact ho) hg)
              clear ho hg hown hi1 hi2 hi3 hi4
              go_wp2_with fail
              go_roundw
              case rel => exact ⟨b + 1, _, _, by omega, by go_num, HN⟩
              case measure => simp [intOf]; omega
        · obtain rfl : n = b := by omega
          have H3 := Lib.hid (fun (j : Nat) (hj : j < n) => HP.out.read (q := 0) hj)
          have H4 := Lib.hid (fun (j q : Nat) (hj : j < n) (hq : q < (X j).length) => HP.out.readV hj hq)
          have HMO := Lib.hid HP.out.more
          have HBT := Lib.hid HP.out.but
          clear HP hltb
          go_wp2_with fail
          go_loopw [9] (fun i wq => ∃ b : Nat, b ≤ n ∧ i = .int .i64 b ∧ wq = wr) (fun i _ => n - (intOf i).toNat)
          case atStart => exact ⟨0, by omega, rfl, rfl⟩
          case round =>
            obtain ⟨b, hb, rfl, rfl⟩ := hrel
            by_cases hltb : b < n
            · have hlt2 : (b : Int) < (n : Int) := by omega
              obtain ⟨ga, rfl, hca⟩ : ∃ ga, A = some ⟨ga, 0, none⟩ ∧ wr.cell? ⟨ga, b, none⟩ = some (vs b) := by
                obtain ⟨ga, e1, _, _, hc⟩ := own_cell (HAL.out _ HBT.out) hltb
                exact ⟨ga, e1, hc b _ (by simp [hltb])⟩
              obtain ⟨gm, rfl, hcm⟩ : ∃ gm, Ao = some ⟨gm, 0, none⟩ ∧ wr.cell? ⟨gm, b, none⟩ = some (ms b) := by
                obtain ⟨gm, e1, _, _, hc⟩ := own_cell HMO.out hltb
                exact ⟨gm, e1, hc b _ (by simp [hltb])⟩
              obtain ⟨Aj, cj, hvj⟩ := HSL.out b hltb
              obtain ⟨g3, c3, hm3, hr3⟩ := H3.out b hltb
              have hXl := HX1.out b hltb
              have hLb := HL.out b hltb
              have HV := Lib.hid hvj
              have H3b := Lib.hid hr3
              rw [hvj] at hca
              rw [hm3, hXl] at hcm
              have h1 : IntKind.i64.wrap (1000 * (b : Int)) = 1000 * (b : Int) := IntWalk.i64_in _ (by omega)
              have h2 : IntKind.i64.wrap (500000 + 1000 * (b : Int)) = 500000 + 1000 * (b : Int) := IntWalk.i64_in _ (by omega)
              clear hvj hr3 hm3
              go_wp2_with fail
              go_loopw [11] (fun i wq => ∃ k : Nat, k ≤ L b ∧ i = .int .i64 k ∧ wq = wr) (fun i _ => L b - (intOf i).toNat)
              case atStart => exact ⟨0, by omega, rfl, rfl⟩
              case round =>
                obtain ⟨k, hk, rfl, rfl⟩ := hrel
                by_cases hlk : k < L b
                · have hlk2 : (k : Int) < (L b : Int) := by omega
                  obtain ⟨g4, c4, hv4, hr4⟩ := H4.out b k hltb (by omega)
                  have hh := HV.out.symm.trans hv4
                  simp only [Value.slice.injEq] at hh
                  obtain ⟨rfl, -, rfl⟩ := hh
                  have hd1 := hr4 k _ (HX2.out b k hltb hlk)
                  have hd2 := H3b.out k _ ((List.getElem?_append_left (by omega)).trans (HX2.out b k hltb hlk))
                  have h5 : IntKind.i64.wrap (1000 * (b : Int) + (k : Int)) = 1000 * (b : Int) + (k : Int) := IntWalk.i64_in _ (by omega)
                  unfold mkA at hd1 hd2
                  have hlk3 : (k : Int) < ((L b + 30 : Nat) : Int) := by omega
                  have hlk4 : k < L b + 30 := by omega
                  clear hr4 hv4
                  go_wp2_with fail
                  go_roundw
                  case rel => exact ⟨k + 1, by omega, by go_num, trivial⟩
                  case measure => simp [intOf]; omega
                · obtain rfl : k = L b := by omega
                  go_wp2_with fail
                  go_loopw [12] (fun i wq => ∃ k : Nat, k ≤ 30 ∧ i = .int .i64 k ∧ wq = wr) (fun i _ => 30 - (intOf i).toNat)
                  case atStart => exact ⟨0, by omega, rfl, rfl⟩
                  case round =>
                    obtain ⟨k, hk, rfl, rfl⟩ := hrel
                    by_cases hlk : k < 30
                    · have hlk2 : (k : Int) < 30 := by omega
                      have hd2 := H3b.out (L b + k) (mkB b k) ((List.getElem?_append_right (by omega)).trans (by rw [hXl, Nat.add_sub_cancel_left]; simp [extA, hlk]))
                      have h5 : IntKind.i64.wrap (500000 + 1000 * (b : Int) + (k : Int)) = 500000 + 1000 * (b : Int) + (k : Int) := IntWalk.i64_in _ (by omega)
                      have h6 : IntKind.i64.wrap ((L b : Int) + (k : Int)) = ((L b + k : Nat) : Int) := by rw [IntWalk.i64_in _ (by omega)]; omega
                      have h7 : L b + k < L b + 30 := by omega
                      have h8 : ((L b + k : Nat) : Int) < ((L b + 30 : Nat) : Int) := by omega
                      unfold mkB at hd2
                      go_wp2_with fail
                      go_roundw
                      case rel => exact ⟨k + 1, by omega, by go_num, trivial⟩
                      case measure => simp [intOf]; omega
                    · have hge : ¬ (k : Int) < 30 := by omega
                      go_wp2_with fail
                      go_roundw
                      case rel => exact ⟨b + 1, by omega, by go_num, trivial⟩
                      case measure => simp [intOf]; omega
            · obtain rfl : n = b := by omega
              go_wp2_with fail
              go_ret
              exact ⟨rfl, HBT.out⟩
end Go.Proofs.YtfckomjbgopmaaaGreatDoor.Sch
