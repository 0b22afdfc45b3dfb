/- A deed's bytes, in plain words: what is written, what is read, and that they agree. No program in sight. -/
import Derived.Test.YtmhlmoojmdfnfaaDoorDeedPlain
import Derived.Test.YtmhlmoojmdfnfaaDoorWirePlain2
namespace Go.Proofs.YtmhlmoojmdfnfaaDoor

/-- A part's bytes. -/
def pieceB (d : Dd) (c : UInt8) : List UInt8 :=
  if c = 65 then [UInt8.ofNat d.a.toNat] else if c = 66 then [UInt8.ofNat d.b.toNat] else if c = 82 then [UInt8.ofNat d.r.toNat] else if c = 78 then encNum d.n else if c = 77 then encNum d.mask else encTruth d.loose
/-- A deed's bytes. -/
def encD (d : Dd) : List UInt8 := UInt8.ofNat d.op.toNat :: (partsL d.op).flatMap (pieceB d)
/-- A part is read. -/
def getP (x : RS × Dd) (c : UInt8) : RS × Dd :=
  if c = 65 then ((byteS x.1).1, { x.2 with a := ((byteS x.1).2.toNat : Int) }) else if c = 66 then ((byteS x.1).1, { x.2 with b := ((byteS x.1).2.toNat : Int) })
  else if c = 82 then ((byteS x.1).1, { x.2 with r := ((byteS x.1).2.toNat : Int) }) else if c = 78 then ((numS x.1).1, { x.2 with n := (numS x.1).2 })
  else if c = 77 then ((numS x.1).1, { x.2 with mask := (numS x.1).2 }) else ((truthS x.1).1, { x.2 with loose := (truthS x.1).2 })
def readP (s : RS) (k : Int) : RS × Dd := (partsL k).foldl getP (s, ⟨k, 0, 0, 0, 0, 0, false⟩)
/-- A deed is read: what is left, the deed, what is wrong. -/
def getD (s : RS) : RS × Dd × Int :=
  if (byteS s).1.1 ≠ 0 then ((byteS s).1, Dd.zero, (byteS s).1.1)
  else if ((byteS s).2.toNat : Int) < 1 ∨ 11 < ((byteS s).2.toNat : Int) then ((byteS s).1, Dd.zero, 3)
  else if (readP (byteS s).1 (byteS s).2.toNat).1.1 ≠ 0 then ((readP (byteS s).1 (byteS s).2.toNat).1, Dd.zero, (readP (byteS s).1 (byteS s).2.toNat).1.1)
  else if goodD (readP (byteS s).1 (byteS s).2.toNat).2 then ((readP (byteS s).1 (byteS s).2.toNat).1, (readP (byteS s).1 (byteS s).2.toNat).2, 0)
  else ((readP (byteS s).1 (byteS s).2.toNat).1, Dd.zero, 5)

theorem encNum_le9 (x : Nat) : (encNum x).length ≤ 9 := by rw [encNum_len]; have := be_len x; omega
theorem partsW_len (op : Int) : (partsL op).length ≤ 5 := by unfold partsL; (repeat' split) <;> simp
theorem pieceB_len (d : Dd) (c : UInt8) : (pieceB d c).length ≤ 9 := by
  unfold pieceB
  have h1 := encNum_le9 d.n
  have h2 := encNum_le9 d.mask
  (repeat' split) <;> (try simp) <;> (try omega)
  unfold encTruth; split <;> simp
theorem flatB_len (d : Dd) : ∀ ps : List UInt8, (ps.flatMap (pieceB d)).length ≤ 9 * ps.length
  | [] => by simp
  | c :: t => by have := flatB_len d t; have := pieceB_len d c; simp only [List.flatMap_cons, List.length_append, List.length_cons]; omega
theorem encD_len (d : Dd) : (encD d).length ≤ 46 := by
  have h1 := flatB_len d (partsL d.op)
  have h2 := partsW_len d.op
  simp only [encD, List.length_cons]
  omega
theorem encD_pos (d : Dd) : 0 < (encD d).length := by simp [encD]

theorem onlyD_of_good {d : Dd} (h : goodD d = true) : d = onlyD d := by
  have h2 : d.same (onlyD d) = true := by
    unfold goodD at h
    simp only [Bool.and_eq_true] at h
    exact h.1.1.2
  exact (Dd.same_iff _ _).1 h2
theorem goodD_bounds {d : Dd} (h : goodD d = true) : 0 ≤ d.a ∧ d.a < 64 ∧ 0 ≤ d.b ∧ d.b < 8 ∧ 0 ≤ d.r ∧ d.r < 8 ∧ 1 ≤ d.op ∧ d.op ≤ 11 := by
  simp [goodD] at h; omega
theorem ofNat_toNat8 (n : Nat) (h : n < 256) : (UInt8.ofNat n).toNat = n := by simp; omega

/-- What is written is read. -/
theorem get_enc (d : Dd) (l : List UInt8) (hg : goodD d = true) (hn : d.n < 18446744073709551616) (hm : d.mask < 18446744073709551616) : getD (0, encD d ++ l) = ((0, l), d, 0) := by
  have ho := onlyD_of_good hg
  obtain ⟨h1, h2, h3, h4, h5, h6, h7, h8⟩ := goodD_bounds hg
  obtain ⟨o, a, b, r, n, m, t⟩ := d
  simp only at h1 h2 h3 h4 h5 h6 h7 h8 hn hm
  obtain ⟨a, rfl⟩ := Int.eq_ofNat_of_zero_le h1
  obtain ⟨b, rfl⟩ := Int.eq_ofNat_of_zero_le h3
  obtain ⟨r, rfl⟩ := Int.eq_ofNat_of_zero_le h5
  have ea : (UInt8.ofNat a).toNat = a := ofNat_toNat8 a (by omega)
  have eb : (UInt8.ofNat b).toNat = b := ofNat_toNat8 b (by omega)
  have er : (UInt8.ofNat r).toNat = r := ofNat_toNat8 r (by omega)
  have hfin : ∀ (k : Int) (kk : Nat) (e : Dd), k = kk → 1 ≤ kk → kk ≤ 11 → ⟨k, (a : Int), (b : Int), (r : Int), n, m, t⟩ = e → goodD e = true → readP (0, (partsL k).flatMap (pieceB ⟨k, (a : Int), (b : Int), (r : Int), n, m, t⟩) ++ l) k = ((0, l), e) →
      getD (0, encD ⟨k, (a : Int), (b : Int), (r : Int), n, m, t⟩ ++ l) = ((0, l), e, 0) := by
    intro k kk e e1 e2 e3 e4 e5 e6
    have h9 : byteS (0, encD ⟨k, (a : Int), (b : Int), (r : Int), n, m, t⟩ ++ l) = ((0, (partsL k).flatMap (pieceB ⟨k, (a : Int), (b : Int), (r : Int), n, m, t⟩) ++ l), UInt8.ofNat kk) := by
      rw [encD, List.cons_append, byte_back]
      simp [e1]
    have h10 : (UInt8.ofNat kk).toNat = kk := ofNat_toNat8 kk (by omega)
    unfold getD
    rw [h9]
    simp only [h10]
    rw [← e1, e6, if_neg (by simp), if_neg (by omega), if_neg (by simp), if_pos e5]
  rcases (by omega : o = 1 ∨ o = 2 ∨ o = 3 ∨ o = 4 ∨ o = 5 ∨ o = 6 ∨ o = 7 ∨ o = 8 ∨ o = 9 ∨ o = 10 ∨ o = 11) with rfl | rfl | rfl | rfl | rfl | rfl | rfl | rfl | rfl | rfl | rfl
  · refine hfin 1 1 _ rfl (by omega) (by omega) rfl hg ?_
    rw [ho]; simp [onlyD, partsL, takeP, readP, getP, pieceB, num_back, hn]
  · refine hfin 2 2 _ rfl (by omega) (by omega) rfl hg ?_
    rw [ho]; simp [onlyD, partsL, takeP, readP, getP, pieceB, num_back, byte_back, truth_back, hm, ea, eb, er]
  · refine hfin 3 3 _ rfl (by omega) (by omega) rfl hg ?_
    rw [ho]; simp [onlyD, partsL, takeP, readP, getP, pieceB, num_back, hn]
  · refine hfin 4 4 _ rfl (by omega) (by omega) rfl hg ?_
    rw [ho]; simp [onlyD, partsL, takeP, readP, getP, pieceB, byte_back, er]
  · refine hfin 5 5 _ rfl (by omega) (by omega) rfl hg ?_
    rw [ho]; simp [onlyD, partsL, readP]
  · refine hfin 6 6 _ rfl (by omega) (by omega) rfl hg ?_
    rw [ho]; simp [onlyD, partsL, takeP, readP, getP, pieceB, num_back, hn]
  · refine hfin 7 7 _ rfl (by omega) (by omega) rfl hg ?_
    rw [ho]; simp [onlyD, partsL, takeP, readP, getP, pieceB, num_back, byte_back, hm, er]
  · refine hfin 8 8 _ rfl (by omega) (by omega) rfl hg ?_
    rw [ho]; simp [onlyD, partsL, takeP, readP, getP, pieceB, byte_back, er, eb]
  · refine hfin 9 9 _ rfl (by omega) (by omega) rfl hg ?_
    rw [ho]; simp [onlyD, partsL, takeP, readP, getP, pieceB, byte_back, ea]
  · refine hfin 10 10 _ rfl (by omega) (by omega) rfl hg ?_
    rw [ho]; simp [onlyD, partsL, takeP, readP, getP, pieceB, num_back, byte_back, hn, ea]
  · refine hfin 11 11 _ rfl (by omega) (by omega) rfl hg ?_
    rw [ho]; simp [onlyD, partsL, takeP, readP, getP, pieceB, byte_back, ea]

theorem byte_once {s : RS} (h : (byteS s).1.1 = 0) : s.1 = 0 ∧ s.2 = (byteS s).2 :: (byteS s).1.2 := by
  obtain ⟨e, l⟩ := s
  by_cases h0 : e = 0
  · subst h0
    cases l with
    | nil => simp [takeS, byteS, failS] at h
    | cons b bs => simp [takeS, byteS]
  · simp [takeS, byteS, h0] at h
theorem num_err0 {s : RS} (h : (numS s).1.1 = 0) : s.1 = 0 := by
  obtain ⟨e, l⟩ := s
  by_cases h0 : e = 0
  · exact h0
  · simp [numS, takeS, byteS, h0, failS] at h
theorem numS_once {s : RS} (h : (numS s).1.1 = 0) : s.1 = 0 ∧ s.2 = encNum (numS s).2 ++ (numS s).1.2 := by
  have h0 := num_err0 h
  obtain ⟨e, l⟩ := s
  simp only at h0
  subst h0
  refine ⟨rfl, num_once (l := l) (l' := (numS (0, l)).1.2) (x := (numS (0, l)).2) ?_⟩
  generalize numS (0, l) = r at *
  obtain ⟨⟨e, l2⟩, x⟩ := r
  simp only at h
  rw [h]
theorem truth_once {s : RS} (h : (truthS s).1.1 = 0) : s.1 = 0 ∧ s.2 = encTruth (truthS s).2 ++ (truthS s).1.2 := by
  have hb : (byteS s).1.1 = 0 ∧ ¬ (1 < (byteS s).2.toNat) := by
    unfold truthS at h
    simp only at h
    split at h
    · exfalso
      unfold failS at h
      split at h
      · cases h
      · rename_i h2; exact h2 h
    · rename_i h2; exact ⟨h, h2⟩
  obtain ⟨h1, h2⟩ := byte_once hb.1
  refine ⟨h1, ?_⟩
  have hv : (byteS s).2 = 0 ∨ (byteS s).2 = 1 := by
    have h3 : (byteS s).2.toNat = 0 ∨ (byteS s).2.toNat = 1 := by omega
    rcases h3 with h3 | h3
    · exact .inl (UInt8.toNat_inj.1 (by simpa using h3))
    · exact .inr (UInt8.toNat_inj.1 (by simpa using h3))
  rw [h2]
  unfold truthS
  simp only
  rw [if_neg hb.2]
  rcases hv with h3 | h3 <;> rw [h3] <;> simp [encTruth]
theorem getP_once (s : RS) (d : Dd) (c : UInt8) (h : (getP (s, d) c).1.1 = 0) : s.1 = 0 ∧ s.2 = pieceB (getP (s, d) c).2 c ++ (getP (s, d) c).1.2 := by
  unfold getP at h ⊢
  unfold pieceB
  simp only at h ⊢
  split at h
  · rename_i hc; subst hc; simpa using byte_once h
  · split at h
    · rename_i hc; subst hc; simpa using byte_once h
    · split at h
      · rename_i hc; subst hc; simpa using byte_once h
      · split at h
        · rename_i hc; subst hc; simpa using numS_once h
        · split at h
          · rename_i hc; subst hc; simpa using numS_once h
          · rename_i h1 h2 h3 h4 h5
            simp only [h1, h2, h3, h4, h5, if_false]
            exact truth_once h

def letters : List UInt8 := [65, 66, 82, 78, 77, 76]
theorem pieceB_getP (s : RS) (d : Dd) (c c' : UInt8) (hc : c ∈ letters) (hc' : c' ∈ letters) (h : c ≠ c') : pieceB (getP (s, d) c).2 c' = pieceB d c' := by
  simp [letters] at hc hc'
  rcases hc with rfl | rfl | rfl | rfl | rfl | rfl <;> rcases hc' with rfl | rfl | rfl | rfl | rfl | rfl <;> first | exact absurd rfl h | rfl
theorem fold_far : ∀ (ps : List UInt8) (s : RS) (d : Dd) (c : UInt8), (∀ x ∈ ps, x ∈ letters) → c ∈ letters → c ∉ ps → pieceB (ps.foldl getP (s, d)).2 c = pieceB d c
  | [], _, _, _, _, _, _ => rfl
  | x :: t, s, d, c, h, hc, hn => by
    rw [List.foldl_cons]
    have h1 := fold_far t (getP (s, d) x).1 (getP (s, d) x).2 c (fun y hy => h y (by simp [hy])) hc (fun hm => hn (by simp [hm]))
    exact h1.trans (pieceB_getP s d x c (h x (by simp)) hc (fun e => hn (by simp [e])))
theorem fold_once : ∀ (ps : List UInt8) (s : RS) (d : Dd), (∀ x ∈ ps, x ∈ letters) → ps.Nodup → (ps.foldl getP (s, d)).1.1 = 0 → s.1 = 0 ∧ s.2 = ps.flatMap (pieceB (ps.foldl getP (s, d)).2) ++ (ps.foldl getP (s, d)).1.2
  | [], _, _, _, _, h => ⟨h, rfl⟩
  | x :: t, s, d, h, hnd, h0 => by
    rw [List.foldl_cons] at h0 ⊢
    obtain ⟨hx, ht⟩ := List.nodup_cons.1 hnd
    have hsub : ∀ y ∈ t, y ∈ letters := fun y hy => h y (by simp [hy])
    obtain ⟨h1, h2⟩ := fold_once t (getP (s, d) x).1 (getP (s, d) x).2 hsub ht h0
    obtain ⟨h3, h4⟩ := getP_once s d x h1
    refine ⟨h3, ?_⟩
    rw [List.flatMap_cons, List.append_assoc]
    have h5 := fold_far t (getP (s, d) x).1 (getP (s, d) x).2 x hsub (h x (by simp)) hx
    show s.2 = pieceB (t.foldl getP ((getP (s, d) x).1, (getP (s, d) x).2)).2 x ++ _
    rw [h5, h4, h2]
theorem fold_op : ∀ (ps : List UInt8) (s : RS) (d : Dd), (ps.foldl getP (s, d)).2.op = d.op
  | [], _, _ => rfl
  | x :: t, s, d => by
    rw [List.foldl_cons]
    refine (fold_op t (getP (s, d) x).1 (getP (s, d) x).2).trans ?_
    unfold getP
    (repeat' split) <;> rfl
theorem partsL_cases (k : Int) : partsL k = [78] ∨ partsL k = [65, 66, 82, 77, 76] ∨ partsL k = [82] ∨ partsL k = [] ∨ partsL k = [82, 77] ∨ partsL k = [82, 66] ∨ partsL k = [65] ∨ partsL k = [65, 78] := by
  unfold partsL
  (repeat' split) <;> simp
theorem partsL_nodup (k : Int) : (partsL k).Nodup ∧ ∀ x ∈ partsL k, x ∈ letters := by
  rcases partsL_cases k with h | h | h | h | h | h | h | h <;> rw [h] <;> exact ⟨by decide, by decide⟩
/-- What was read are the bytes of the deed. -/
theorem get_once {s s' : RS} {d : Dd} (h : getD s = (s', d, 0)) : s.1 = 0 ∧ s'.1 = 0 ∧ goodD d = true ∧ s.2 = encD d ++ s'.2 := by
  unfold getD at h
  split at h
  · rename_i h1
    exact absurd (congrArg (fun y : RS × Dd × Int => y.2.2) h) h1
  · rename_i h1
    have h1 : (byteS s).1.1 = 0 := Decidable.byContradiction h1
    split at h
    · exact absurd (congrArg (fun y : RS × Dd × Int => y.2.2) h) (show ¬ ((3 : Int) = 0) by decide)
    · rename_i h2
      split at h
      · rename_i h3
        exact absurd (congrArg (fun y : RS × Dd × Int => y.2.2) h) h3
      · rename_i h3
        have h3 := Decidable.byContradiction h3
        split at h
        · rename_i h4
          have q1 := congrArg Prod.fst h
          have q2 := congrArg (fun y : RS × Dd × Int => y.2.1) h
          simp only at q1 q2
          subst q1 q2
          clear h
          obtain ⟨h5, h6⟩ := byte_once h1
          have hk := partsL_nodup ((byteS s).2.toNat : Int)
          have h7 := fold_once _ (byteS s).1 ⟨(byteS s).2.toNat, 0, 0, 0, 0, 0, false⟩ hk.2 hk.1 h3
          have h8 : (readP (byteS s).1 (byteS s).2.toNat).2.op = (byteS s).2.toNat := fold_op _ _ _
          refine ⟨h5, h3, h4, ?_⟩
          rw [h6, encD, h8, List.cons_append, Int.toNat_natCast, UInt8.ofNat_toNat]
          exact congrArg _ h7.2
        · exact absurd (congrArg (fun y : RS × Dd × Int => y.2.2) h) (show ¬ ((5 : Int) = 0) by decide)

end Go.Proofs.YtmhlmoojmdfnfaaDoor
