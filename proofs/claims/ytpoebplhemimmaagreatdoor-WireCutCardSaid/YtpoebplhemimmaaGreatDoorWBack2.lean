/-
  Decode of Encode is the message, and what is decoded may be written. No program is in sight here.
-/
import Derived.Test.YtpoebplhemimmaaGreatDoorWBack
namespace Go.Proofs.YtpoebplhemimmaaGreatDoor
set_option linter.unusedVariables false
set_option linter.unusedSimpArgs false

theorem decS_add {s : Bs} {sec : Nat} : ∀ (k j : Nat) (x y : RSt), decS s sec k x = (0, y) → decS s sec (k + j) x = decS s sec j y
  | 0, j, x, y, h => by
    simp only [decS, Prod.mk.injEq, true_and] at h
    rw [h, Nat.zero_add]
  | k + 1, j, x, y, h => by
    rw [decS_succ] at h
    split at h
    · rename_i h1; rw [h] at h1; exact absurd rfl h1
    · rename_i h1
      rw [show k + 1 + j = (k + j) + 1 by omega, decS_succ, if_neg h1]
      exact decS_add k j _ y h
theorem bare_no {e : Ed} (h : bareE e = true) : e = noEd := by
  obtain ⟨a, b, c, d, l⟩ := e
  unfold bareE at h
  simp only [Bool.and_eq_true, decide_eq_true_eq] at h
  obtain ⟨⟨⟨⟨h1, h2⟩, h3⟩, h4⟩, h5⟩ := h
  have h6 : l = [] := List.length_eq_zero_iff.1 h5
  subst h1 h2 h3 h4 h6; rfl
theorem dec_enc {m : Msg} {s : Bs} (hL : MsgL m) (h : encN m = (0, s)) : decN s = (0, m) := by
  obtain ⟨hm, hb⟩ := encN_ok h
  obtain ⟨b, o, h1, h2, h3, hs⟩ := encB_parts hb
  have hl := mayM_l hm
  obtain ⟨a, c, d, e, q1, q2, q3, q4, rfl⟩ := body_parts h1
  have hnx := hl.nx
  obtain ⟨k3, hk3⟩ : ∃ k3, k3 = m.extra.length + (if m.has = true then 1 else 0) := ⟨_, rfl⟩
  rw [← hk3] at hs hnx
  obtain ⟨H, hH⟩ : ∃ H, H = headW m.hd m.qs.length m.ans.length m.auth.length k3 := ⟨_, rfl⟩
  have hHl : H.length = 12 := by rw [hH]; rfl
  rw [← hH] at hs
  simp only at hs h3
  have hS0 : s = H ++ (a.1 ++ (c.1 ++ (d.1 ++ (e.1 ++ o)))) := by rw [hs]; simp only [List.append_assoc]
  have hHe : H = be2 m.hd.id ++ (be2 (flagsN m.hd) ++ (be2 m.qs.length ++ (be2 m.ans.length ++ (be2 m.auth.length ++ be2 k3)))) := hH
  obtain ⟨R, hR⟩ : ∃ R, R = a.1 ++ (c.1 ++ (d.1 ++ (e.1 ++ o))) := ⟨_, rfl⟩
  have hS1 : s = be2 m.hd.id ++ (be2 (flagsN m.hd) ++ (be2 m.qs.length ++ (be2 m.ans.length ++ (be2 m.auth.length ++ (be2 k3 ++ R))))) := by rw [hS0, hHe, hR]; simp only [List.append_assoc]
  have hnq := hl.nq; have hna := hl.na; have hnu := hl.nu
  have n0 : num2 s 0 = m.hd.id := num2_at' (A := []) (B := be2 (flagsN m.hd) ++ (be2 m.qs.length ++ (be2 m.ans.length ++ (be2 m.auth.length ++ (be2 k3 ++ R))))) (by rw [List.nil_append]; exact hS1) rfl hL.hd.id
  have n2 : num2 s 2 = flagsN m.hd := num2_at' (A := be2 m.hd.id) hS1 rfl (flagsN_max hl.op hl.code)
  have n4 : num2 s 4 = m.qs.length := num2_at' (A := be2 m.hd.id ++ be2 (flagsN m.hd)) (B := be2 m.ans.length ++ (be2 m.auth.length ++ (be2 k3 ++ R))) (by simp only [List.append_assoc]; exact hS1) rfl (by omega)
  have n6 : num2 s 6 = m.ans.length := num2_at' (A := be2 m.hd.id ++ be2 (flagsN m.hd) ++ be2 m.qs.length) (B := be2 m.auth.length ++ (be2 k3 ++ R)) (by simp only [List.append_assoc]; exact hS1) rfl (by omega)
  have n8 : num2 s 8 = m.auth.length := num2_at' (A := be2 m.hd.id ++ be2 (flagsN m.hd) ++ be2 m.qs.length ++ be2 m.ans.length) (B := be2 k3 ++ R) (by simp only [List.append_assoc]; exact hS1) rfl (by omega)
  have n10 : num2 s 10 = k3 := num2_at' (A := be2 m.hd.id ++ be2 (flagsN m.hd) ++ be2 m.qs.length ++ be2 m.ans.length ++ be2 m.auth.length) (B := R) (by simp only [List.append_assoc]; exact hS1) rfl (by omega)
  have hlen : s.length = 12 + a.1.length + c.1.length + d.1.length + e.1.length + o.length := by rw [hS0]; simp only [List.length_append, hHl]; omega
  have h65 : s.length ≤ 65535 := by simp only [List.length_append] at h3; omega
  obtain ⟨dq, t1⟩ := decQ_back (z := c.1 ++ (d.1 ++ (e.1 ++ o))) m.qs H [] [] a (fun q hq => ⟨hl.qs q hq, hL.qs q hq⟩) (tab_nil H) (by rw [hHl]; exact q1)
  rw [← hS0, hHl, List.nil_append] at dq
  obtain ⟨d1, t2⟩ := decS_back (sec := 1) (has := false) (ed := noEd) (z := d.1 ++ (e.1 ++ o)) m.ans (H ++ a.1) a.2 [] c (fun r hr => ⟨(hl.ans r hr).1, (hl.ans r hr).2, hL.ans r hr⟩) t1 (by rw [List.length_append, hHl]; exact q2)
  rw [show H ++ a.1 ++ (c.1 ++ (d.1 ++ (e.1 ++ o))) = s by rw [hS0]; simp only [List.append_assoc], List.length_append, hHl, List.nil_append] at d1
  obtain ⟨d2, t3⟩ := decS_back (sec := 2) (has := false) (ed := noEd) (z := e.1 ++ o) m.auth (H ++ a.1 ++ c.1) c.2 [] d (fun r hr => ⟨(hl.auth r hr).1, (hl.auth r hr).2, hL.auth r hr⟩) t2 (by rw [List.length_append, List.length_append, hHl]; exact q3)
  rw [show H ++ a.1 ++ c.1 ++ (d.1 ++ (e.1 ++ o)) = s by rw [hS0]; simp only [List.append_assoc], List.length_append, List.length_append, hHl, List.nil_append] at d2
  obtain ⟨d3, t4⟩ := decS_back (sec := 3) (has := false) (ed := noEd) (z := o) m.extra (H ++ a.1 ++ c.1 ++ d.1) d.2 [] e (fun r hr => ⟨(hl.extra r hr).1, (hl.extra r hr).2, hL.extra r hr⟩) t3 (by rw [List.length_append, List.length_append, List.length_append, hHl]; exact q4)
  have hS3 : H ++ a.1 ++ c.1 ++ d.1 ++ (e.1 ++ o) = s := by rw [hS0]; simp only [List.append_assoc]
  rw [hS3, List.length_append, List.length_append, List.length_append, hHl, List.nil_append] at d3
  have d4 : decS s 3 k3 ⟨12 + a.1.length + c.1.length + d.1.length, [], false, noEd⟩ = (0, ⟨s.length, m.extra, m.has, m.ed⟩) := by
    unfold lastW at h2
    cases hh : m.has with
    | false =>
      rw [hh, if_neg (by simp)] at h2
      rw [hh, if_neg (by simp), Nat.add_zero] at hk3
      obtain rfl := Option.some.inj h2
      have hbe : m.ed = noEd := by
        rcases hl.bare with h | h
        · rw [hh] at h; cases h
        · exact bare_no h
      rw [hk3, d3, hbe, hlen]; rfl
    | true =>
      rw [hh, if_pos rfl] at h2
      rw [hh, if_pos rfl] at hk3
      obtain ⟨dd, hdd, rfl⟩ := Option.map_eq_some_iff.1 h2
      have hol : (optW m.ed dd).length = 11 + dd.length := by simp only [optW, List.length_cons, List.length_append, be2_len, be4_len]; omega
      have ho := optR_back (pre := H ++ a.1 ++ c.1 ++ d.1 ++ e.1) (z := []) (acc := m.extra) (ed := noEd) hL.ed hdd (by omega)
      rw [show H ++ a.1 ++ c.1 ++ d.1 ++ e.1 ++ (optW m.ed dd ++ []) = s by rw [← hS3]; simp only [List.append_assoc, List.append_nil]] at ho
      simp only [List.length_append, hHl] at ho
      rw [hk3, decS_add _ _ _ _ d3, decS_2 Nat.one_pos ho]
      rw [hlen]; rfl
  have hdB : decB s = fin s 3 (12 + a.1.length) (qMsg s m.qs) := decB_q (by omega) (by omega) (by rw [n4]; exact dq)
  have f1 := fin_2 (s := s) (i := 1) (p := 12 + a.1.length) (m := qMsg s m.qs) (x := ⟨12 + a.1.length + c.1.length, m.ans, false, noEd⟩) (by omega) (by omega) (by rw [show 4 + 2 * 1 = 6 from rfl, n6]; exact d1)
  have f2 := fin_2 (s := s) (i := 2) (p := 12 + a.1.length + c.1.length) (m := setSec (qMsg s m.qs) 1 m.ans false noEd) (x := ⟨12 + a.1.length + c.1.length + d.1.length, m.auth, false, noEd⟩) (by omega) (by omega) (by rw [show 4 + 2 * 2 = 8 from rfl, n8]; exact d2)
  have f3 := fin_2 (s := s) (i := 3) (p := 12 + a.1.length + c.1.length + d.1.length) (m := setSec (setSec (qMsg s m.qs) 1 m.ans false noEd) 2 m.auth false noEd) (x := ⟨s.length, m.extra, m.has, m.ed⟩) (by omega) (by omega) (by rw [show 4 + 2 * 3 = 10 from rfl, n10]; exact d4)
  have hend : fin s (secRem (3 + 1)) s.length (setSec (setSec (setSec (qMsg s m.qs) 1 m.ans false noEd) 2 m.auth false noEd) 3 m.extra m.has m.ed) = (0, m) := by
    show (if s.length < s.length then (5, noMsg) else (0, setSec (setSec (setSec (qMsg s m.qs) 1 m.ans false noEd) 2 m.auth false noEd) 3 m.extra m.has m.ed)) = (0, m)
    rw [if_neg (Nat.lt_irrefl _)]
    have hhd : fromN (num2 s 0) (num2 s 2) = m.hd := by rw [n0, n2]; exact fromN_back hl.op hl.code
    have : setSec (setSec (setSec (qMsg s m.qs) 1 m.ans false noEd) 2 m.auth false noEd) 3 m.extra m.has m.ed = ⟨fromN (num2 s 0) (num2 s 2), m.qs, m.ans, m.auth, m.extra, m.has, m.ed⟩ := rfl
    rw [this, hhd]
  have hfin : decB s = (0, m) := by
    rw [hdB]
    exact (f1.trans (f2.trans (f3.trans hend)))
  unfold decN
  rw [hfin, if_neg (by simp), h, if_neg (by simp)]
theorem decN_ok {s : Bs} {m : Msg} (h : decN s = (0, m)) : MOk m ∧ ∃ u, encN m = (0, u) := by
  unfold decN at h
  split at h
  · rename_i h1; simp only [Prod.mk.injEq] at h; exact absurd h.1 h1
  · rename_i h1
    split at h
    · rename_i h2; simp only [Prod.mk.injEq] at h; exact absurd h.1 h2
    · rename_i h2
      simp only [Prod.mk.injEq, true_and] at h
      subst h
      exact ⟨decB_ok (s := s) (Prod.ext (Decidable.not_not.1 h1) rfl), (encN (decB s).2).2, Prod.ext (Decidable.not_not.1 h2) rfl⟩
theorem decN_bad {s : Bs} (h : (decN s).1 ≠ 0) : (decN s).2 = noMsg := by
  unfold decN at h ⊢
  split
  · rfl
  · rename_i h1
    rw [if_neg h1] at h
    split
    · rfl
    · rename_i h2; rw [if_neg h2] at h; exact absurd rfl h
/-- Another number: another two bytes. -/
theorem enc_id {m : Msg} {s : Bs} (k : Nat) (h : encN m = (0, s)) : encN { m with hd := { m.hd with id := k } } = (0, be2 k ++ s.drop 2) ∧ s = be2 m.hd.id ++ s.drop 2 := by
  obtain ⟨hm, hb⟩ := encN_ok h
  obtain ⟨b, o, h1, h2, h3, hs⟩ := encB_parts hb
  have hm2 : mayM { m with hd := { m.hd with id := k } } = true := hm
  have hb2 : bodyW { m with hd := { m.hd with id := k } } = some b := h1
  have hl2 : lastW { m with hd := { m.hd with id := k } } = some o := h2
  have hd2 : s.drop 2 = be2 (flagsN m.hd) ++ (be2 m.qs.length ++ (be2 m.ans.length ++ (be2 m.auth.length ++ be2 (m.extra.length + if m.has = true then 1 else 0)))) ++ (b.1 ++ o) := by rw [hs]; rfl
  have hs2 : s = be2 m.hd.id ++ s.drop 2 := by rw [hd2]; exact hs
  refine ⟨?_, hs2⟩
  unfold encN
  rw [if_pos hm2]
  unfold encB
  rw [hb2, hl2]
  simp only
  rw [if_neg (by omega), hd2]
  rfl
theorem enc_nums {m : Msg} {s : Bs} (hL : MsgL m) (h : encN m = (0, s)) : num2 s 0 = m.hd.id ∧ num2 s 4 = m.qs.length ∧ num2 s 6 = m.ans.length ∧ num2 s 8 = m.auth.length ∧ num2 s 10 = m.extra.length + (if m.has = true then 1 else 0) := by
  obtain ⟨hm, hb⟩ := encN_ok h
  obtain ⟨b, o, h1, h2, h3, hs⟩ := encB_parts hb
  have hl := mayM_l hm
  have hnq := hl.nq; have hna := hl.na; have hnu := hl.nu; have hnx := hl.nx
  obtain ⟨k3, hk3⟩ : ∃ k3, k3 = m.extra.length + (if m.has = true then 1 else 0) := ⟨_, rfl⟩
  rw [← hk3] at hs hnx ⊢
  obtain ⟨R, hR⟩ : ∃ R, R = b.1 ++ o := ⟨_, rfl⟩
  have hS1 : s = be2 m.hd.id ++ (be2 (flagsN m.hd) ++ (be2 m.qs.length ++ (be2 m.ans.length ++ (be2 m.auth.length ++ (be2 k3 ++ R))))) := by rw [hs, hR]; unfold headW; simp only [List.append_assoc]
  refine ⟨num2_at' (A := []) (B := be2 (flagsN m.hd) ++ (be2 m.qs.length ++ (be2 m.ans.length ++ (be2 m.auth.length ++ (be2 k3 ++ R))))) (by rw [List.nil_append]; exact hS1) rfl hL.hd.id,
    num2_at' (A := be2 m.hd.id ++ be2 (flagsN m.hd)) (B := be2 m.ans.length ++ (be2 m.auth.length ++ (be2 k3 ++ R))) (by simp only [List.append_assoc]; exact hS1) rfl (by omega),
    num2_at' (A := be2 m.hd.id ++ be2 (flagsN m.hd) ++ be2 m.qs.length) (B := be2 m.auth.length ++ (be2 k3 ++ R)) (by simp only [List.append_assoc]; exact hS1) rfl (by omega),
    num2_at' (A := be2 m.hd.id ++ be2 (flagsN m.hd) ++ be2 m.qs.length ++ be2 m.ans.length) (B := be2 k3 ++ R) (by simp only [List.append_assoc]; exact hS1) rfl (by omega),
    num2_at' (A := be2 m.hd.id ++ be2 (flagsN m.hd) ++ be2 m.qs.length ++ be2 m.ans.length ++ be2 m.auth.length) (B := R) (by simp only [List.append_assoc]; exact hS1) rfl (by omega)⟩
end Go.Proofs.YtpoebplhemimmaaGreatDoor
