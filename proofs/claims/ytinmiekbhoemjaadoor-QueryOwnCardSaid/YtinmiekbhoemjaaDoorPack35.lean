/- How bodyS goes at bool, step by step. Contract: the parser's query where its word is none; queryS step by step. Written by gen_query.py. -/
import Derived.Test.YtinmiekbhoemjaaDoorPack32
import Derived.Test.YtinmiekbhoemjaaDoorQryPar14
section
set_option linter.unusedVariables false
namespace Go.Proofs.YtinmiekbhoemjaaDoor.Qry
open QryP SchP
/-- The clauses behind a place. -/
def clW (qs : R → E (QT × R)) (r : R) : E (List QT × R) := clauseS qs (r.length + 1) r
def preK (l0 : List QT) : E (List QT × R) → E (List QT × R)
  | .ok (l, r) => .ok (l0 ++ l, r)
  | .error e => .error e
theorem preK_pre (a b : List QT) (x : E (List QT × R)) : preK a (preK b x) = preK (a ++ b) x := by
  match x with
  | .ok (l, r) => simp [preK]
  | .error e => rfl
theorem cl_step (qs : R → E (QT × R)) (hq : ∀ t, Fine t.length (qs t)) (r : R) : clW qs r = match skipS r with
    | [] => .error (0, 180)
    | c :: t => if markI c = 0 then .error (t.length + 1, 180) else match qs t with
      | .error e => .error e
      | .ok (k, r1) => if (isS 44 r1).1 then preK [setOc (markI c) k] (clW qs (isS 44 r1).2) else .ok ([setOc (markI c) k], (isS 44 r1).2) := by
  unfold clW
  rw [clauseS]
  have hs := skip_le r
  cases hk : skipS r with
  | nil => rfl
  | cons c t =>
    rw [hk] at hs
    dsimp only
    by_cases hm : markI c = 0
    · rw [if_pos hm, if_pos hm]
    · rw [if_neg hm, if_neg hm]
      have hqt := hq t
      match hx : qs t, hqt with
      | .error e, _ => rfl
      | .ok (k, r1), hqt =>
        replace hqt : r1.length ≤ t.length := hqt
        dsimp only
        have hs1 := skip_le r1
        cases hk1 : skipS r1 with
        | nil => rw [isS_nil hk1]; rfl
        | cons x r3 =>
          rw [hk1] at hs1
          simp only [List.length_cons] at hs hs1
          by_cases h44 : x = 44
          · subst h44
            rw [show isS 44 r1 = (true, r3) from (isS_cons hk1).trans (if_pos rfl)]
            dsimp only
            rw [if_pos rfl]
            show (match clauseS qs r.length r3 with
              | .error e => Except.error e
              | .ok (ks, r4) => Except.ok (setOc (markI c) k :: ks, r4)) = _
            rw [clause_fuel hq r.length (r3.length + 1) r3 (by omega) (by omega)]
            cases clauseS qs (r3.length + 1) r3 with
            | error e => rfl
            | ok p => rfl
          · rw [show isS 44 r1 = (false, x :: r3) from (isS_cons hk1).trans (if_neg h44)]
            dsimp only
            rw [if_neg (by decide)]
            split
            · rename_i heq; injection heq with e1 e2; exact absurd e1 h44
            · rfl
theorem skip_cons {r t : R} {c : UInt8} (h : skipS r = c :: t) : skipS (c :: t) = c :: t := by rw [← h, skip_two]
theorem cl_skip (qs : R → E (QT × R)) (hq : ∀ t, Fine t.length (qs t)) (r : R) : clW qs (skipS r) = clW qs r := by
  rw [cl_step qs hq, cl_step qs hq r, skip_two]
theorem body_8 (qs : R → E (QT × R)) (hq : ∀ t, Fine t.length (qs t)) (r : R) : bodyS numT parT qs 8 r = if (isS 41 r).1 then .ok (.mk 8 0 emp emp emp [] [] 0 0 [], (isS 41 r).2) else match clW qs (isS 41 r).2 with
    | .error e => .error e
    | .ok (ks, r1) => match wantS 41 r1 with
      | .error e => .error e
      | .ok r2 => .ok (.mk 8 0 emp emp emp [] [] 0 0 ks, r2) := by
  have key : clauseS qs (r.length + 1) r = clW qs r := rfl
  unfold bodyS
  rw [if_pos rfl, key]
  cases hk : skipS r with
  | nil =>
    rw [isS_nil hk]
    dsimp only [bind, Except.bind]
    rw [if_neg (by decide), ← cl_skip qs hq r, hk]
    cases clW qs [] with
    | error e => rfl
    | ok p =>
      obtain ⟨ks, r1⟩ := p
      dsimp only
      cases wantS 41 r1 with
      | error e => rfl
      | ok r2 => rfl
  | cons x t =>
    by_cases h41 : x = 41
    · subst h41
      rw [show isS 41 r = (true, t) from (isS_cons hk).trans (if_pos rfl)]
      rfl
    · rw [show isS 41 r = (false, x :: t) from (isS_cons hk).trans (if_neg h41)]
      dsimp only [bind, Except.bind]
      rw [if_neg (by decide), ← cl_skip qs hq r, hk]
      split
      · rename_i heq; injection heq with e1 e2; exact absurd e1 h41
      · cases clW qs (x :: t) with
        | error e => rfl
        | ok p =>
          obtain ⟨ks, r1⟩ := p
          dsimp only
          cases wantS 41 r1 with
          | error e => rfl
          | ok r2 => rfl
end Go.Proofs.YtinmiekbhoemjaaDoor.Qry
end
section
set_option linter.unusedVariables false
namespace Go.Proofs.YtinmiekbhoemjaaDoor.Qry
open Go.RowKit Words Tree QryP Kit Sch SchP Owned

theorem kind_zero {r : R} {p : Int × R} (h : kindS 0 r = .ok p) : False := by
  unfold kindS at h
  split at h
  · cases h
  · rw [if_pos rfl] at h; cases h
theorem query_unf (d : Nat) (r : R) : queryS numT parT (d + 1) r = match kindS (d + 1) r with
    | .error e => .error e
    | .ok (k, r1) => if k = 1 ∨ k = 2 then .ok (.mk k 0 emp emp emp [] [] 0 0 [], r1) else bodyW d k r1 := by
  rw [queryS]
  rfl
theorem query_zero (r : R) : queryS numT parT 0 r = match kindS 0 r with
    | .error e => .error e
    | .ok _ => .error (0, 0) := by
  rw [queryS]
  cases kindS 0 r <;> rfl
set_option maxRecDepth 100000 in
set_option maxHeartbeats 16000000 in
theorem query_e (B : Nat) (s : ByteArray) (hs : s.size ≤ 4096) (above : Nat) (ha : above ≤ 6) (ec : Nat × Int) (gp k : Nat) (w : World) (h : Pa s gp k w) (hB : B ≤ gp) (hT : PT B w) (hK : kindS (6 - above) (rem s k) = .error ec) :
    Calls Tryd.prog 32 #[.pointer (some ⟨gp, 0, none⟩), .int .i64 above] w (Out s gp k w (.error ec) (QV w.heap.size)) := by
  obtain ⟨pc, cc⟩ := ec
  have HT := Lib.hid hT
  have hgp : gp < w.heap.size := h.blk.lt
  have hsz1 : (w.alloc (.cells #[.pointer (some ⟨gp, 0, none⟩)] 53)).heap.size = w.heap.size + 1 := by simp
  have hsz2 : ((w.alloc (.cells #[.pointer (some ⟨gp, 0, none⟩)] 53)).alloc (.cells #[.int .i64 above] 3)).heap.size = w.heap.size + 2 := by simp
  have hA : Below w.heap.size w (((w.alloc (.cells #[.pointer (some ⟨gp, 0, none⟩)] 53)).alloc (.cells #[.int .i64 above] 3)).alloc (.cells zeroQ 25)) := (((Below.refl _ w).alloc (Nat.le_refl _) _).alloc (by first | (simp; done) | (simp; omega)) _).alloc (by first | (simp; done) | (simp; omega)) _
  have HP := Lib.hid (h.keep hA)
  have hbp : Blk (((w.alloc (.cells #[.pointer (some ⟨gp, 0, none⟩)] 53)).alloc (.cells #[.int .i64 above] 3)).alloc (.cells zeroQ 25)) w.heap.size 53 #[.pointer (some ⟨gp, 0, none⟩)] := ((Blk.new w _ _).alloc _).alloc _
  have hba : Blk (((w.alloc (.cells #[.pointer (some ⟨gp, 0, none⟩)] 53)).alloc (.cells #[.int .i64 above] 3)).alloc (.cells zeroQ 25)) (w.heap.size + 1) 3 #[.int .i64 above] := by rw [← hsz1]; exact (Blk.new _ _ _).alloc _
  have hbr : Blk (((w.alloc (.cells #[.pointer (some ⟨gp, 0, none⟩)] 53)).alloc (.cells #[.int .i64 above] 3)).alloc (.cells zeroQ 25)) (w.heap.size + 2) 25 zeroQ := by rw [← hsz2]; exact Blk.new _ _ _
  have HBP := Lib.hid hbp; have HBA := Lib.hid hba; have HBR := Lib.hid hbr
  have HG := Lib.hid (only_of_below hA (some gp))
  have HKD := Lib.hid (kind_any above ha s gp k _ HP.out hs)
  rw [hK] at HKD
  clear h hT hA hbp hba hbr hsz1 hsz2 hK
  unfold zeroQ at HBR HBA HBP HG HKD HP
  go_enter Tryd.func32, Tryd.ntmps32
  go_wp2_with fail
  refine HKD.out.mono ?_
  intro e w4 ho
  obtain ⟨rfl, hg⟩ := ho
  refine ⟨rfl, ?_⟩
  exact ⟨rfl, grown_trans' HG.out hg⟩
end Go.Proofs.YtinmiekbhoemjaaDoor.Qry
end
