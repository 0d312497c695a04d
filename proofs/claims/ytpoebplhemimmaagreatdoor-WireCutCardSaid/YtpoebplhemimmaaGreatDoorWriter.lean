/-
  The walks of package wire's writer. Nothing is claimed here.
  The walks of package wire's records, and of edns.Write. Nothing is claimed here.
  The walks of edns.Write, and of the writer's opt. Nothing is claimed here.
  The walks of the writer's opt, and of package head's Flags and Write. Nothing is claimed here.
-/
import Derived.Test.YtpoebplhemimmaaGreatDoorWrite
namespace Go.Proofs.YtpoebplhemimmaaGreatDoor
open Go.RowKit
set_option linter.unusedVariables false
set_option linter.unusedSimpArgs false
set_option maxHeartbeats 1000000

open Classical in
/-- Some of the blocks, in another row. -/
theorem Hp.pick {w0 w : World} {H H' R : List (Nat × Obj)} (h : Hp w0 w H) (hp : ∀ z, (H' ++ R).count z = H.count z) : Hp w0 w H' :=
  (h.perm (List.perm_iff_count.2 hp)).sub (List.sublist_append_left _ _)
abbrev wrO (bv : Value) (gt : Nat) : Obj := .cells #[bv, ptr gt] 94 (0, 0)
/-- The blocks of a writer that has gathered bytes, with its table. -/
def WrB (gw gt : Nat) (b : Bs) (tb : Tab) (HW : List (Nat × Obj)) : Prop := ∃ bv B BT, HW = [(gw, wrO bv gt)] ++ (B ++ BT) ∧ SlB 5 B bv b.length (bytV b) ∧ TabB tb gt BT ∧ TabS tb
section
variable {w0 w1 : World} {H HW : List (Nat × Obj)} {gw gt : Nat} {b n : Bs} {tb : Tab}
theorem wname_spec (hW : WrB gw gt b tb HW) (hH0 : Hp w0 w1 (HW ++ H)) (hn : mayB n = true) (hb : b.length < 900000) :
    Rets Tryz.prog 41 [ptr gw, .string (mk n)] w1 fun v w' => v = .tuple #[] ∧ ∃ HW', WrB gw gt (b ++ (nmW true true n b.length tb).1) (nmW true true n b.length tb).2 HW' ∧ Hp w0 w' (HW' ++ H) := by
  obtain ⟨bv, B, BT, rfl, hS, hT, hTS⟩ := hW
  have hH : Hp w0 w1 ([(gw, wrO bv gt)] ++ (B ++ (BT ++ H))) := by rw [List.append_assoc, List.append_assoc] at hH0; exact hH0
  refine rets_start Tryz.func41 rfl Tryz.ntmps41 rfl fun a Q0 hF hret hend => ?_
  simp only [argsFrom, Nat.zero_add, Nat.reduceAdd] at hF
  refine c_planF hF [] [0, 1, 2, 3, 5, 6, 7, 9] [.p 4, .p 8] [.o 10, .p 11, .p 12] [13, 14, 15, 16] [0, 1, 2, 3, 5, 6, 7, 9, 4, 8] (hH.S) (by kernel_rfl) (by kernel_rfl) rfl ?_
  refine ps hF rfl rfl rfl rfl (fun w => r_move hF rfl rfl) fun a hF => ?_
  refine ps hF rfl rfl rfl rfl (fun w => r_move hF rfl rfl) fun a hF => ?_
  refine ps_nil hF rfl rfl rfl rfl rfl fun a hF => ?_
  refine ps hF rfl rfl rfl rfl (fun w => r_fieldaddr0 hF rfl rfl fd94_1) fun a hF => ?_
  refine ps hF rfl rfl rfl rfl (fun w => r_move hF rfl rfl) fun a hF => ?_
  refine ps_nil hF rfl rfl rfl rfl rfl fun a hF => ?_
  refine ps hF rfl rfl rfl rfl (fun w => r_fieldaddr0 hF rfl rfl fd94_0) fun a hF => ?_
  refine ps hF rfl rfl rfl rfl (fun w => r_move hF rfl rfl) fun a hF => ?_
  refine pl_start fun w hE => ?_
  replace hH := hH.ext hE
  refine ⟨hH, ?_⟩
  refine pp hF rfl rfl rfl rfl (fun w hH => r_load hF rfl rfl fl91 (own_cell (i := 0) (v := ptr gt) hH rfl rfl)) fun a hF => ?_
  refine pp hF rfl rfl rfl rfl (fun w hH => r_load hF rfl rfl fl26 (own_cell (i := 0) (v := bv) hH rfl rfl)) fun a hF => ?_
  refine pt ?_
  refine to ?_
  refine zc hF rfl rfl fn67 (tput_spec (cmp := true) (kn := true) hT (show Hp w0 w (BT ++ ([(gw, wrO bv gt)] ++ (B ++ H))) from hH.pick (R := []) (fun z => by simp only [List.count_append, List.count_nil]; omega)) (hS.rsl hH fun p hp => List.mem_append_right _ (List.mem_append_left _ hp)) (by omega) hn hTS) ?_
  rintro _ w ⟨v14, B2, BT2, rfl, hH, hS2, hT2, hTS2⟩ a hF
  skip
  refine wpList_nil (to_end ?_)
  refine tp hF rfl rfl rfl rfl (fun w => r_extract hF rfl rfl rfl) fun a hF => ?_
  refine tp hF rfl rfl rfl rfl (fun w => r_extract hF rfl rfl rfl) fun a hF => ?_
  refine tt ?_
  refine zc hF rfl rfl fn66 ((gotb_spec _ 0 _).rets (fun n w h => h.2.1 rfl)) ?_
  rintro _ w ⟨rfl, _, hE⟩ a hF
  replace hH := hH.ext hE
  refine zl hF rfl (r_nilcheck hF rfl rfl) fun a hF => ?_
  refine zl hF rfl (r_fieldaddr0 hF rfl rfl fd94_0) fun a hF => ?_
  replace hH : Hp w0 w ([(gw, wrO bv gt)] ++ (B2 ++ (BT2 ++ H))) := hH.pick (R := B) (fun z => by simp only [List.count_append]; omega)
  refine ls_store 0 hF hH rfl rfl rfl rfl rfl fl26 ti26 rfl (by simp) (by simp [noFreeze]) (hS2.one) ?_
  intro w hH
  refine pt_end ?_
  replace hF := hF.sel []
  simp only [ss, Nat.reduceBEq] at hF
  refine hend (fall0 (fn := Tryz.f41) hF Tryz.results41 ?_)
  exact ⟨rfl, _, ⟨_, B2, BT2, rfl, .inl hS2, hT2, hTS2⟩, by rw [List.append_assoc, List.append_assoc]; exact hH⟩
theorem wtwo_spec (k : Nat) (hk : k < 65536) (hW : WrB gw gt b tb HW) (hH0 : Hp w0 w1 (HW ++ H)) (hb : b.length < 900000) :
    Rets Tryz.prog 42 [ptr gw, .int .u16 (k : Nat)] w1 fun v w' => v = .tuple #[] ∧ ∃ HW', WrB gw gt (b ++ be2 k) tb HW' ∧ Hp w0 w' (HW' ++ H) := by
  obtain ⟨bv, B, BT, rfl, hS, hT, hTS⟩ := hW
  have hH : Hp w0 w1 ([(gw, wrO bv gt)] ++ (B ++ (BT ++ H))) := by rw [List.append_assoc, List.append_assoc] at hH0; exact hH0
  refine rets_start Tryz.func42 rfl Tryz.ntmps42 rfl fun a Q0 hF hret hend => ?_
  simp only [argsFrom, Nat.zero_add, Nat.reduceAdd] at hF
  refine c_reg fun ops => ?_
  refine zm 2 hF rfl fun a hF => ?_
  refine zl hF rfl (r_nilcheck hF rfl rfl) fun a hF => ?_
  refine zl hF rfl (r_fieldaddr0 hF rfl rfl fd94_0) fun a hF => ?_
  refine zl hF rfl (r_load hF rfl rfl fl26 (own_cell (i := 0) (v := bv) hH rfl rfl)) fun a hF => ?_
  refine zm 1 hF rfl fun a hF => ?_
  refine zc hF rfl rfl fn65 (put2_spec b k _ _ (hS.rsl hH fun p hp => List.mem_append_right _ (List.mem_append_left _ hp)) (by omega) hk) ?_
  rintro v10 w ⟨B2, hB, hS2⟩ a hF
  replace hH := hH.join hB
  refine zl hF rfl (r_nilcheck hF rfl rfl) fun a hF => ?_
  refine zl hF rfl (r_fieldaddr0 hF rfl rfl fd94_0) fun a hF => ?_
  replace hH : Hp w0 w ([(gw, wrO bv gt)] ++ (B2 ++ (BT ++ H))) := hH.pick (R := B) (fun z => by simp only [List.count_append]; omega)
  refine ls_store 0 hF hH rfl rfl rfl rfl rfl fl26 ti26 rfl (by simp) (by simp [noFreeze]) (hS2.one) ?_
  intro w hH
  refine wpList_nil ?_
  replace hF := hF.sel []
  simp only [ss, Nat.reduceBEq] at hF
  refine hend (fall0 (fn := Tryz.f42) hF Tryz.results42 ?_)
  exact ⟨rfl, _, ⟨_, B2, BT, rfl, .inl (by rw [List.length_append, be2_len]; exact hS2), hT, hTS⟩, by rw [List.append_assoc, List.append_assoc]; exact hH⟩
theorem wfour_spec (k : Nat) (hk : k < 4294967296) (hW : WrB gw gt b tb HW) (hH0 : Hp w0 w1 (HW ++ H)) (hb : b.length < 900000) :
    Rets Tryz.prog 68 [ptr gw, .int .u32 (k : Nat)] w1 fun v w' => v = .tuple #[] ∧ ∃ HW', WrB gw gt (b ++ be4 k) tb HW' ∧ Hp w0 w' (HW' ++ H) := by
  obtain ⟨bv, B, BT, rfl, hS, hT, hTS⟩ := hW
  have hH : Hp w0 w1 ([(gw, wrO bv gt)] ++ (B ++ (BT ++ H))) := by rw [List.append_assoc, List.append_assoc] at hH0; exact hH0
  refine rets_start Tryz.func68 rfl Tryz.ntmps68 rfl fun a Q0 hF hret hend => ?_
  simp only [argsFrom, Nat.zero_add, Nat.reduceAdd] at hF
  refine c_reg fun ops => ?_
  refine zm 2 hF rfl fun a hF => ?_
  refine zl hF rfl (r_nilcheck hF rfl rfl) fun a hF => ?_
  refine zl hF rfl (r_fieldaddr0 hF rfl rfl fd94_0) fun a hF => ?_
  refine zl hF rfl (r_load hF rfl rfl fl26 (own_cell (i := 0) (v := bv) hH rfl rfl)) fun a hF => ?_
  refine zm 1 hF rfl fun a hF => ?_
  refine zc hF rfl rfl fn86 (put4_spec b k _ _ (hS.rsl hH fun p hp => List.mem_append_right _ (List.mem_append_left _ hp)) (by omega) hk) ?_
  rintro v10 w ⟨B2, hB, hS2⟩ a hF
  replace hH := hH.join hB
  refine zl hF rfl (r_nilcheck hF rfl rfl) fun a hF => ?_
  refine zl hF rfl (r_fieldaddr0 hF rfl rfl fd94_0) fun a hF => ?_
  replace hH : Hp w0 w ([(gw, wrO bv gt)] ++ (B2 ++ (BT ++ H))) := hH.pick (R := B) (fun z => by simp only [List.count_append]; omega)
  refine ls_store 0 hF hH rfl rfl rfl rfl rfl fl26 ti26 rfl (by simp) (by simp [noFreeze]) (hS2.one) ?_
  intro w hH
  refine wpList_nil ?_
  replace hF := hF.sel []
  simp only [ss, Nat.reduceBEq] at hF
  refine hend (fall0 (fn := Tryz.f68) hF Tryz.results68 ?_)
  exact ⟨rfl, _, ⟨_, B2, BT, rfl, .inl (by rw [List.length_append, be4_len]; exact hS2), hT, hTS⟩, by rw [List.append_assoc, List.append_assoc]; exact hH⟩
theorem wsize_spec (hW : WrB gw gt b tb HW) (hH0 : Hp w0 w1 (HW ++ H)) :
    RetsT Tryz.prog 43 [ptr gw] w1 (fun v w' => v = .tuple #[] ∧ b.length ≤ 65535 ∧ Hp w0 w' (HW ++ H)) fun n w' => n = 5 ∧ 65535 < b.length ∧ Hp w0 w' (HW ++ H) := by
  have hW0 := hW
  obtain ⟨bv, B, BT, hHW, hS, hT, hTS⟩ := hW
  obtain ⟨bad, bcp, rfl⟩ := hS.shape
  have hH : Hp w0 w1 (HW ++ H) := hH0
  have hbc : ∀ w, Hp w0 w (HW ++ H) → w.cell? ⟨gw, 0, none⟩ = some (.slice bad b.length bcp) := fun w h => mem_cell (cur := #[.slice bad b.length bcp, ptr gt]) (e := 94) (fr := (0, 0)) h (by rw [hHW]; exact List.mem_append_left _ (List.mem_append_left _ (List.mem_singleton.2 rfl))) rfl
  refine rets_startT Tryz.func43 rfl Tryz.ntmps43 rfl fun a Q0 hF hret hend hpan => ?_
  simp only [argsFrom, Nat.zero_add, Nat.reduceAdd] at hF
  refine c_reg fun ops => ?_
  refine zm 1 hF rfl fun a hF => ?_
  refine zl hF rfl (r_nilcheck hF rfl rfl) fun a hF => ?_
  refine zl hF rfl (r_fieldaddr0 hF rfl rfl fd94_0) fun a hF => ?_
  refine zl hF rfl (r_load hF rfl rfl fl26 (hbc _ hH)) fun a hF => ?_
  refine zl hF rfl (r_len_sl hF rfl rfl Tryz.underlying26) fun a hF => ?_
  refine zb hF rfl rfl rfl (b_gtn _ _ _ 65535) fun a hF => ?_
  refine ls_callT hF rfl rfl rfl rfl rfl fn28 (that_spec _ 5 _) (fun n w hE => hpan hF (⟨hE.1, of_decide_eq_true hE.2.1, hH.ext hE.2.2⟩)) ?_
  rintro _ w ⟨rfl, hs, hE⟩ a hF
  replace hH := hH.ext hE
  refine wpList_nil ?_
  replace hF := hF.sel []
  simp only [ss, Nat.reduceBEq] at hF
  refine hend (fall0 (fn := Tryz.f43) hF Tryz.results43 ?_)
  exact ⟨rfl, Nat.le_of_not_lt (of_decide_eq_false hs), hH⟩
end
end Go.Proofs.YtpoebplhemimmaaGreatDoor
namespace Go.Proofs.YtpoebplhemimmaaGreatDoor
open Go.RowKit
set_option linter.unusedVariables false
set_option linter.unusedSimpArgs false
set_option maxHeartbeats 1000000

theorem own2 {w0 w : World} {A H : List (Nat × Obj)} {g j : Nat} {cur : Array Value} {e : TypeId} {fr : Nat × Nat} {v : Value} (hH : Hp w0 w (A ++ ([(g, .cells cur e fr)] ++ H))) (hc : cur[j]? = some v) : w.cell? ⟨g, j, none⟩ = some v :=
  mem_cell hH (List.mem_append_right _ (List.mem_append_left _ (List.mem_singleton.2 rfl))) hc
section
variable {P : Program} {w : World}
theorem b_shr8w (t : TypeId) (n : Nat) (h : n ≤ 9223372036854775807) : (binOp .shr t (.int .i64 (n : Int)) (.int .u64 8)).run P w = .ok (.int .i64 ((n / 256 : Nat) : Int)) w := by simp [go_sem]
end
theorem patch_len (x d : Bs) (n : Nat) : ((bytV (x ++ (be2 0 ++ d))).set x.length (.int .u8 ((UInt8.ofNat (n / 256)).toNat : Nat))).set (x.length + 1) (.int .u8 ((UInt8.ofNat n).toNat : Nat)) = bytV (x ++ (be2 n ++ d)) := by
  have e : bytV (x ++ (be2 0 ++ d)) = bytV x ++ (.int .u8 (0 : Nat) :: .int .u8 (0 : Nat) :: bytV d) := by rw [bytV_append, bytV_append]; rfl
  have e2 : bytV (x ++ (be2 n ++ d)) = bytV x ++ (.int .u8 ((UInt8.ofNat (n / 256)).toNat : Nat) :: .int .u8 ((UInt8.ofNat n).toNat : Nat) :: bytV d) := by rw [bytV_append, bytV_append]; rfl
  rw [e, e2, List.set_append_right _ _ (by rw [bytV_length]; omega), bytV_length, Nat.sub_self, List.set_append_right _ _ (by rw [bytV_length]; omega), bytV_length, show x.length + 1 - x.length = 1 by omega]
  rfl
theorem dataW_len {c : Bool} : ∀ (ps : Pieces) (pos : Nat) (t : Tab), (∀ q ∈ ps, q.2 = true → mayB q.1 = true) → (dataW c ps pos t).1.length ≤ (flatP ps).length
  | [], _, _, _ => Nat.le_refl _
  | (s, true) :: ps, pos, t, h => by
    have h1 := nmW_len (cmp := c) (kn := c) (h (s, true) (List.mem_cons_self ..) rfl) pos t
    have h2 := dataW_len (c := c) ps (pos + (nmW c c s pos t).1.length) (nmW c c s pos t).2 fun q hq => h q (List.mem_cons_of_mem _ hq)
    rw [dataW_named, flatP_cons, List.length_append, List.length_append]
    simp only at h1 ⊢
    omega
  | (s, false) :: ps, pos, t, h => by
    have h2 := dataW_len (c := c) ps (pos + s.length) t fun q hq => h q (List.mem_cons_of_mem _ hq)
    rw [dataW_plain, flatP_cons, List.length_append, List.length_append]
    simp only
    omega
theorem Sl.set2 {e : TypeId} {size g n cap : Nat} {cur : Array Value} {xs : List Value} (j k : Nat) (u v : Value) (h1 : xs.length = n * size) (h2 : n ≤ cap) (h3 : cap ≤ maxLen) (h4 : cur.size = cap * size) (h5 : cur.toList.take (n * size) = xs) :
    Sl e size [(g, .cells ((cur.setIfInBounds j u).setIfInBounds k v) e (0, 0))] (.slice (some ⟨g, 0, none⟩) n cap) n ((xs.set j u).set k v) :=
  Sl.set k v (by simpa using h1) h2 h3 (by simpa using h4) (by rw [Array.toList_setIfInBounds, List.take_set, h5])
theorem recW_eq (r : Rec) (pos : Nat) (t : Tab) : (recW r pos t).1 = (nmW true true r.name pos t).1 ++ (be2 r.kind ++ (be2 r.cls ++ (be4 r.ttl ++ (be2 (recD r pos t).1.length ++ (recD r pos t).1)))) := rfl
section
variable {w0 w1 : World} {H HW : List (Nat × Obj)} {gw gt : Nat} {b : Bs} {tb : Tab}
theorem wrecord_spec (r : Rec) (hG : GX w0) (hrn : mayB r.name = true) (hrd : dmayB r.kind r.data = true) (hL : RecL r) (hdl : r.data.length < 300000) (hW : WrB gw gt b tb HW) (hH0 : Hp w0 w1 (HW ++ H)) (hb : b.length ≤ 65535) :
    RetsT Tryz.prog 44 [ptr gw, .agg (recV r).toArray] w1 (fun v w' => v = .tuple #[] ∧ (b ++ (recW r b.length tb).1).length ≤ 65535 ∧ ∃ HW', WrB gw gt (b ++ (recW r b.length tb).1) (recW r b.length tb).2 HW' ∧ Hp w0 w' (HW' ++ H))
      fun n w' => n = 5 ∧ 65535 < (b ++ (recW r b.length tb).1).length ∧ Hp w0 w' H := by
  have hnl := nmW_len (cmp := true) (kn := true) hrn b.length tb
  have hml := may_len hrn
  have hk := hL.kind
  have hc := hL.cls
  have ht := hL.ttl
  have hH := hH0
  generalize hn : (nmW true true r.name b.length tb).1 = N at *
  generalize hn2 : (nmW true true r.name b.length tb).2 = T at *
  refine rets_startT Tryz.func44 rfl Tryz.ntmps44 rfl fun a Q0 hF hret hend hpan => ?_
  simp only [argsFrom, Nat.zero_add, Nat.reduceAdd] at hF
  refine c_sr fun ops => ?_
  refine ls_box hF hH rfl rfl rfl rfl rfl ?_
  intro a w g0_0 hH hE hF
  refine c_n ?_
  replace hF := hF.sel [0, 3]
  simp only [ss, Nat.reduceBEq] at hF
  replace hH : Hp w0 w (HW ++ ([(g0_0, .cells (recV r).toArray 56 (0, 0))] ++ H)) := (show Hp w0 w ([(g0_0, .cells (recV r).toArray 56 (0, 0))] ++ (HW ++ H)) from hH).flip
  refine c_sr fun ops => ?_
  refine zm 1 hF rfl fun a hF => ?_
  refine zl hF rfl (r_fieldaddr0 hF rfl rfl fd56_0) fun a hF => ?_
  refine zl hF rfl (r_load hF rfl rfl fl9 (own2 (v := .string (mk r.name)) hH rfl)) fun a hF => ?_
  refine zc hF rfl rfl fn41 (wname_spec hW hH hrn (by omega)) ?_
  rintro _ w ⟨rfl, HW, hW, hH⟩ a hF
  rw [hn, hn2] at hW
  refine c_n ?_
  replace hF := hF.sel [0, 3]
  simp only [ss, Nat.reduceBEq] at hF
  refine c_sr fun ops => ?_
  refine zm 1 hF rfl fun a hF => ?_
  refine zl hF rfl (r_fieldaddr0 hF rfl rfl fd56_1) fun a hF => ?_
  refine zl hF rfl (r_load hF rfl rfl fl28 (own2 (v := .int .u16 r.kind) hH rfl)) fun a hF => ?_
  refine zc hF rfl rfl fn42 (wtwo_spec r.kind hk hW hH (by simp; omega)) ?_
  rintro _ w ⟨rfl, HW, hW, hH⟩ a hF
  skip
  refine c_n ?_
  replace hF := hF.sel [0, 3]
  simp only [ss, Nat.reduceBEq] at hF
  refine c_sr fun ops => ?_
  refine zm 1 hF rfl fun a hF => ?_
  refine zl hF rfl (r_fieldaddr0 hF rfl rfl fd56_2) fun a hF => ?_
  refine zl hF rfl (r_load hF rfl rfl fl28 (own2 (v := .int .u16 r.cls) hH rfl)) fun a hF => ?_
  refine zc hF rfl rfl fn42 (wtwo_spec r.cls hc hW hH (by simp [be2_len]; omega)) ?_
  rintro _ w ⟨rfl, HW, hW, hH⟩ a hF
  skip
  refine c_n ?_
  replace hF := hF.sel [0, 3]
  simp only [ss, Nat.reduceBEq] at hF
  refine c_sr fun ops => ?_
  refine zm 1 hF rfl fun a hF => ?_
  refine zl hF rfl (r_fieldaddr0 hF rfl rfl fd56_3) fun a hF => ?_
  refine zl hF rfl (r_load hF rfl rfl fl54 (own2 (v := .int .u32 r.ttl) hH rfl)) fun a hF => ?_
  refine zc hF rfl rfl fn68 (wfour_spec r.ttl ht hW hH (by simp [be2_len]; omega)) ?_
  rintro _ w ⟨rfl, HW, hW, hH⟩ a hF
  skip
  refine c_n ?_
  replace hF := hF.sel [0, 3]
  simp only [ss, Nat.reduceBEq] at hF
  obtain ⟨x, hx⟩ : ∃ x, x = b ++ N ++ be2 r.kind ++ be2 r.cls ++ be4 r.ttl := ⟨_, rfl⟩
  rw [← hx] at hW
  have hxl : x.length = b.length + N.length + 8 := by rw [hx]; simp [be2_len, be4_len]; omega
  have hW5 := hW
  obtain ⟨bv, B, BT, hHW, hS, hT, hTS⟩ := hW5
  obtain ⟨bad, bcp, rfl⟩ := hS.shape
  refine c_sr fun ops => ?_
  refine zm 1 hF rfl fun a hF => ?_
  refine zl hF rfl (r_nilcheck hF rfl rfl) fun a hF => ?_
  refine zl hF rfl (r_fieldaddr0 hF rfl rfl fd94_0) fun a hF => ?_
  refine zl hF rfl (r_load hF rfl rfl fl26 (mem_cell (cur := #[.slice bad x.length bcp, ptr gt]) (e := 94) (fr := (0, 0)) (v := .slice bad x.length bcp) hH (by rw [hHW]; exact List.mem_append_left _ (List.mem_append_left _ (List.mem_singleton.2 rfl))) rfl)) fun a hF => ?_
  refine zl hF rfl (r_len_sl hF rfl rfl Tryz.underlying26) fun a hF => ?_
  refine zm 1 hF rfl fun a hF => ?_
  refine c_n ?_
  replace hF := hF.sel [0, 3, 4]
  simp only [ss, Nat.reduceBEq] at hF
  refine c_sr fun ops => ?_
  refine zm 1 hF rfl fun a hF => ?_
  refine zc hF rfl rfl fn42 (wtwo_spec 0 (by omega) hW hH (by omega)) ?_
  rintro _ w ⟨rfl, HW, hW, hH⟩ a hF
  skip
  refine c_n ?_
  replace hF := hF.sel [0, 3, 4]
  simp only [ss, Nat.reduceBEq] at hF
  refine c_seq fun Q1 k1 t1 => ?_
  clear hHW hS hT hTS
  obtain ⟨bv, B, BT, rfl, hS, hT, hTS⟩ := hW
  replace hH : Hp w0 w ([(gw, wrO bv gt)] ++ (B ++ (BT ++ ([(g0_0, .cells (recV r).toArray 56 (0, 0))] ++ H)))) := by rw [List.append_assoc, List.append_assoc] at hH; exact hH
  refine c_planF hF [] [0, 1, 2, 3, 5, 6, 7, 9, 11] [.p 4, .p 8, .p 10, .p 12] [.o 13, .p 14, .p 15] [16, 17, 18, 19] [0, 1, 2, 3, 5, 6, 7, 9, 11, 4, 8, 10, 12] (hH.S) (by kernel_rfl) (by kernel_rfl) rfl ?_
  refine ps hF rfl rfl rfl rfl (fun w => r_move hF rfl rfl) fun a hF => ?_
  refine ps hF rfl rfl rfl rfl (fun w => r_move hF rfl rfl) fun a hF => ?_
  refine ps_nil hF rfl rfl rfl rfl rfl fun a hF => ?_
  refine ps hF rfl rfl rfl rfl (fun w => r_fieldaddr0 hF rfl rfl fd94_0) fun a hF => ?_
  refine ps hF rfl rfl rfl rfl (fun w => r_move hF rfl rfl) fun a hF => ?_
  refine ps_nil hF rfl rfl rfl rfl rfl fun a hF => ?_
  refine ps hF rfl rfl rfl rfl (fun w => r_fieldaddr0 hF rfl rfl fd94_1) fun a hF => ?_
  refine ps hF rfl rfl rfl rfl (fun w => r_fieldaddr0 hF rfl rfl fd56_1) fun a hF => ?_
  refine ps hF rfl rfl rfl rfl (fun w => r_fieldaddr0 hF rfl rfl fd56_4) fun a hF => ?_
  refine pl_start fun w hE => ?_
  replace hH := hH.ext hE
  refine ⟨hH, ?_⟩
  refine pp hF rfl rfl rfl rfl (fun w hH => r_load hF rfl rfl fl26 (own_cell (i := 0) (v := bv) hH rfl rfl)) fun a hF => ?_
  refine pp hF rfl rfl rfl rfl (fun w hH => r_load hF rfl rfl fl91 (own_cell (i := 0) (v := ptr gt) hH rfl rfl)) fun a hF => ?_
  refine pp hF rfl rfl rfl rfl (fun w hH => r_load hF rfl rfl fl28 (mem_cell (v := .int .u16 r.kind) hH (List.mem_append_right _ (List.mem_append_right _ (List.mem_append_right _ (List.mem_append_left _ (List.mem_singleton.2 rfl))))) rfl)) fun a hF => ?_
  refine pp hF rfl rfl rfl rfl (fun w hH => r_load hF rfl rfl fl9 (mem_cell (v := .string (mk r.data)) hH (List.mem_append_right _ (List.mem_append_right _ (List.mem_append_right _ (List.mem_append_left _ (List.mem_singleton.2 rfl))))) rfl)) fun a hF => ?_
  refine pt ?_
  refine to ?_
  refine zc hF rfl rfl fn69 (dwrite_spec hG hT (show Hp w0 w (BT ++ ([(gw, wrO bv gt)] ++ (B ++ ([(g0_0, .cells (recV r).toArray 56 (0, 0))] ++ H)))) from hH.pick (R := []) (fun z => by simp only [List.count_append, List.count_nil]; omega)) (hS.rsl hH fun p hp => List.mem_append_right _ (List.mem_append_left _ hp)) (by rw [List.length_append, be2_len]; omega) (by omega) hrd hTS) ?_
  rintro _ w ⟨v14, B2, BT2, rfl, hH, hS2, hT2, hTS2⟩ a hF
  skip
  refine wpList_nil (to_end ?_)
  refine tp hF rfl rfl rfl rfl (fun w => r_extract hF rfl rfl rfl) fun a hF => ?_
  refine tp hF rfl rfl rfl rfl (fun w => r_extract hF rfl rfl rfl) fun a hF => ?_
  refine tt ?_
  refine zc hF rfl rfl fn66 ((gotb_spec _ 0 _).rets (fun n w h => h.2.1 rfl)) ?_
  rintro v14 w ⟨rfl, _, hE⟩ a hF
  replace hH := hH.ext hE
  refine zl hF rfl (r_nilcheck hF rfl rfl) fun a hF => ?_
  refine zl hF rfl (r_fieldaddr0 hF rfl rfl fd94_0) fun a hF => ?_
  replace hH : Hp w0 w ([(gw, wrO bv gt)] ++ (B2 ++ (BT2 ++ ([(g0_0, .cells (recV r).toArray 56 (0, 0))] ++ H)))) := hH.pick (R := B) (fun z => by simp only [List.count_append]; omega)
  refine ls_store 0 hF hH rfl rfl rfl rfl rfl fl26 ti26 rfl (by simp) (by simp [noFreeze]) (hS2.one) ?_
  intro w hH
  refine pt_end ?_
  replace hF := hF.sel [0, 4]
  simp only [ss, Nat.reduceBEq] at hF
  have hDe : (dataW (compB r.kind) (pcs r.kind r.data) (x ++ be2 0).length T) = recD r b.length tb := by
    unfold recD; rw [hn, hn2, List.length_append, be2_len, hxl]
  rw [hDe] at hS2 hT2 hTS2
  obtain ⟨D, hD⟩ : ∃ D, (recD r b.length tb).1 = D := ⟨_, rfl⟩
  have hbx : b ++ (recW r b.length tb).1 = x ++ (be2 D.length ++ D) := by rw [recW_eq, hn, hD, hx]; simp
  rw [hD, List.append_assoc] at hS2
  have hDl : D.length < 400000 := by
    have h1 := dataW_len (c := compB r.kind) (pcs r.kind r.data) (b.length + (nmW true true r.name b.length tb).1.length + 10) (nmW true true r.name b.length tb).2 pcs_names
    have h2 := pcs_len r.kind r.data
    have h3 : D = (dataW (compB r.kind) (pcs r.kind r.data) (b.length + (nmW true true r.name b.length tb).1.length + 10) (nmW true true r.name b.length tb).2).1 := hD.symm
    rw [h3]; omega
  have hW7 : WrB gw gt (x ++ (be2 0 ++ D)) (recD r b.length tb).2 ([(gw, wrO v14 gt)] ++ (B2 ++ BT2)) := ⟨_, B2, BT2, rfl, .inl hS2, hT2, hTS2⟩
  have hH7 : Hp w0 w ([(gw, wrO v14 gt)] ++ (B2 ++ BT2) ++ ([(g0_0, .cells (recV r).toArray 56 (0, 0))] ++ H)) := by rw [List.append_assoc, List.append_assoc]; exact hH
  have hlen : (x ++ (be2 0 ++ D)).length = (b ++ (recW r b.length tb).1).length := by rw [hbx]; simp [be2_len]
  clear hH
  refine k1 ?_
  refine c_sr fun ops => ?_
  refine zm 1 hF rfl fun a hF => ?_
  refine ls_callT hF rfl rfl rfl rfl rfl fn43 (wsize_spec hW7 hH7) (fun n w hE => hpan hF (⟨hE.1, by rw [← hlen]; exact hE.2.1, hE.2.2.pick (R := ([(gw, wrO v14 gt)] ++ (B2 ++ BT2)) ++ [(g0_0, .cells (recV r).toArray 56 (0, 0))]) (fun z => by simp only [List.count_append]; omega)⟩)) ?_
  rintro _ w ⟨rfl, hsz, hH⟩ a hF
  skip
  refine c_n ?_
  replace hF := hF.sel [0, 4]
  simp only [ss, Nat.reduceBEq] at hF
  rw [hlen] at hsz
  obtain ⟨gb, cap, cur, hv14, hBe, hc1, hc2, hc3, hc4⟩ := hS2.open (by simp [be2_len]; omega)
  rw [hv14, hBe] at hH
  have hxe : (x ++ (be2 0 ++ D)).length = x.length + 2 + D.length := by simp [be2_len]; omega
  rw [hxe] at hc1 hc4 hH
  replace hH : Hp w0 w ([(gw, wrO (.slice (some ⟨gb, 0, none⟩) (x.length + 2 + D.length) cap) gt), (gb, .cells cur 5 (0, 0))] ++ (BT2 ++ ([(g0_0, .cells (recV r).toArray 56 (0, 0))] ++ H))) := by rw [List.append_assoc, List.append_assoc] at hH; exact hH
  refine c_sr fun ops => ?_
  refine zm 1 hF rfl fun a hF => ?_
  refine zl hF rfl (r_nilcheck hF rfl rfl) fun a hF => ?_
  refine zl hF rfl (r_fieldaddr0 hF rfl rfl fd94_0) fun a hF => ?_
  refine zl hF rfl (r_load hF rfl rfl fl26 (own_cell (i := 0) hH rfl rfl)) fun a hF => ?_
  refine zl hF rfl (r_len_sl hF rfl rfl Tryz.underlying26) fun a hF => ?_
  refine zm 1 hF rfl fun a hF => ?_
  refine zb hF rfl rfl rfl (b_subn _ _ _ (by omega)) fun a hF => ?_
  refine zb hF rfl rfl rfl (b_subn _ _ 2 (by omega)) fun a hF => ?_
  refine zm 1 hF rfl fun a hF => ?_
  refine c_n ?_
  replace hF := hF.sel [0, 4, 5]
  simp only [ss, Nat.reduceBEq] at hF
  rw [show x.length + 2 + D.length - x.length - 2 = D.length by omega] at hF
  refine c_planF hF [] [0, 1, 2, 4, 5, 6, 7, 9, 10, 11, 12, 13, 14, 15] [.p 3, .p 8] [.p 16] [17, 18, 19] [0, 1, 2, 4, 5, 6, 7, 9, 10, 11, 12, 13, 14, 15, 3, 8] (hH.S) (by kernel_rfl) (by kernel_rfl) rfl ?_
  refine ps hF rfl rfl rfl rfl (fun w => r_move hF rfl rfl) fun a hF => ?_
  refine ps_nil hF rfl rfl rfl rfl rfl fun a hF => ?_
  refine ps hF rfl rfl rfl rfl (fun w => r_fieldaddr0 hF rfl rfl fd94_0) fun a hF => ?_
  refine ps hF rfl rfl rfl rfl (fun w => r_move hF rfl rfl) fun a hF => ?_
  refine ps hF rfl rfl rfl rfl (fun w => r_move hF rfl rfl) fun a hF => ?_
  refine ps_nil hF rfl rfl rfl rfl rfl fun a hF => ?_
  refine ps hF rfl rfl rfl rfl (fun w => r_fieldaddr0 hF rfl rfl fd94_0) fun a hF => ?_
  refine ps hF rfl rfl rfl rfl (fun w => r_move hF rfl rfl) fun a hF => ?_
  refine ps hF rfl rfl rfl rfl (fun w => zr hF rfl rfl (b_addn _ _ 1 (by omega))) fun a hF => ?_
  refine ps hF rfl rfl rfl rfl (fun w => r_move hF rfl rfl) fun a hF => ?_
  refine ps hF rfl rfl rfl rfl (fun w => zr hF rfl rfl (b_shr8w _ D.length (by omega))) fun a hF => ?_
  refine ps hF rfl rfl rfl rfl (fun w => r_conv8 hF rfl rfl (by rw [Tryz.underlying3]; rfl) Tryz.underlying5) fun a hF => ?_
  refine ps hF rfl rfl rfl rfl (fun w => r_move hF rfl rfl) fun a hF => ?_
  refine ps hF rfl rfl rfl rfl (fun w => r_conv8 hF rfl rfl (by rw [Tryz.underlying3]; rfl) Tryz.underlying5) fun a hF => ?_
  refine pl_start fun w hE => ?_
  replace hH := hH.ext hE
  refine ⟨hH, ?_⟩
  refine pp hF rfl rfl rfl rfl (fun w hH => r_load hF rfl rfl fl26 (own_cell (i := 0) (v := .slice (some ⟨gb, 0, none⟩) (x.length + 2 + D.length) cap) hH rfl rfl)) fun a hF => ?_
  refine pp hF rfl rfl rfl rfl (fun w hH => r_load hF rfl rfl fl26 (own_cell (i := 0) (v := .slice (some ⟨gb, 0, none⟩) (x.length + 2 + D.length) cap) hH rfl rfl)) fun a hF => ?_
  refine pt ?_
  refine tp hF rfl rfl rfl rfl (fun w => r_ixown1 hF _ rfl rfl rfl Tryz.underlying26 ti5 (by omega)) fun a hF => ?_
  refine tt ?_
  refine ls_store 1 hF hH rfl rfl rfl rfl rfl fl5 ti5 rfl (by omega) (by simp [noFreeze]) (rfl) ?_
  intro w hH
  refine zl hF rfl (r_ixown1 hF _ rfl rfl rfl Tryz.underlying26 ti5 (by omega)) fun a hF => ?_
  refine ls_store 1 hF hH rfl rfl rfl rfl rfl fl5 ti5 rfl (by simp; omega) (by simp [noFreeze]) (rfl) ?_
  intro w hH
  refine pt_end ?_
  replace hF := hF.sel []
  simp only [ss, Nat.reduceBEq] at hF
  refine hend (fall0 (fn := Tryz.f44) hF Tryz.results44 ?_)
  have hlen2 : (b ++ (recW r b.length tb).1).length = x.length + 2 + D.length := by rw [← hlen, hxe]
  have hS9 := Sl.set2 (e := 5) (g := gb) x.length (x.length + 1) (.int .u8 ((UInt8.ofNat (D.length / 256)).toNat : Nat)) (.int .u8 ((UInt8.ofNat D.length).toNat : Nat)) (by rw [bytV_length, hxe]; omega) hc1 hc2 hc3 hc4
  rw [patch_len, ← hbx] at hS9
  refine ⟨rfl, hsz, [(gw, wrO (.slice (some ⟨gb, 0, none⟩) (x.length + 2 + D.length) cap) gt)] ++ ([(gb, .cells ((cur.setIfInBounds x.length (.int .u8 ((UInt8.ofNat (D.length / 256)).toNat : Nat))).setIfInBounds (x.length + 1) (.int .u8 ((UInt8.ofNat D.length).toNat : Nat))) 5 (0, 0))] ++ BT2), ⟨_, _, BT2, rfl, ?_, hT2, hTS2⟩, ?_⟩
  · rw [hlen2]; exact .inl hS9
  · rw [List.append_assoc, List.append_assoc]
    exact (show Hp w0 w ([(gw, wrO (.slice (some ⟨gb, 0, none⟩) (x.length + 2 + D.length) cap) gt)] ++ ([(gb, .cells ((cur.setIfInBounds x.length (.int .u8 ((UInt8.ofNat (D.length / 256)).toNat : Nat))).setIfInBounds (x.length + 1) (.int .u8 ((UInt8.ofNat D.length).toNat : Nat))) 5 (0, 0))] ++ (BT2 ++ ([(g0_0, .cells (recV r).toArray 56 (0, 0))] ++ H)))) from hH).pick (R := [(g0_0, .cells (recV r).toArray 56 (0, 0))]) (fun z => by simp only [List.count_append]; omega)
end
end Go.Proofs.YtpoebplhemimmaaGreatDoor
namespace Go.Proofs.YtpoebplhemimmaaGreatDoor
open Go.RowKit
set_option linter.unusedVariables false
set_option linter.unusedSimpArgs false
set_option maxHeartbeats 1000000

theorem fm_get {α : Type} {f : α → List Value} {k : Nat} (hf : ∀ a, (f a).length = k) : ∀ {l : List α} {i : Nat} (h : i < l.length) {j : Nat} {u : Value}, (f l[i])[j]? = some u → (l.flatMap f)[i * k + j]? = some u
  | [], i, h, _, _, _ => by simp at h
  | a :: l, 0, h, j, u, hu => by
    rw [Nat.zero_mul, Nat.zero_add, List.flatMap_cons]
    have hj : j < (f a).length := (List.getElem?_eq_some_iff.1 hu).1
    rw [List.getElem?_append_left hj]; exact hu
  | a :: l, i + 1, h, j, u, hu => by
    rw [List.flatMap_cons, List.getElem?_append_right (by rw [hf, Nat.add_mul]; omega), hf, show (i + 1) * k + j - k = i * k + j by rw [Nat.add_mul]; omega]
    exact fm_get hf (l := l) (i := i) (by simpa using h) (by simpa using hu)
/-- An element of a slice that is read. -/
theorem RSl.elem {α : Type} {f : α → List Value} {k : Nat} {w : World} {ad : Option Addr} {cap : Nat} {l : List α} (h : RSl w k (.slice ad l.length cap) l.length (l.flatMap f)) (hf : ∀ a, (f a).length = k) {i : Nat} (hi : i < l.length) :
    ∃ b off, ad = some ⟨b, off, none⟩ ∧ ∀ j u, (f l[i])[j]? = some u → w.cell? ⟨b, off + i * k + j, none⟩ = some u := by
  obtain ⟨_, a, c, e, h1, h2, h3⟩ := h
  cases e
  rcases h3 with ⟨_, _, h0⟩ | ⟨b, off, rfl, hc⟩
  · omega
  · exact ⟨b, off, rfl, fun j u hu => by rw [Nat.add_assoc]; exact hc _ u (fm_get hf hi hu)⟩
section
variable {P : Program} {w : World}
theorem b_shl24 (t : TypeId) (n : Nat) (h : n < 256) : (binOp .shl t (.int .u32 (n : Int)) (.int .u64 24)).run P w = .ok (.int .u32 ((n * 16777216 : Nat) : Int)) w := by
  simp [go_sem]; rw [IntWalk.u32_in _ (by omega)]
theorem b_shl16 (t : TypeId) (n : Nat) (h : n < 256) : (binOp .shl t (.int .u32 (n : Int)) (.int .u64 16)).run P w = .ok (.int .u32 ((n * 65536 : Nat) : Int)) w := by
  simp [go_sem]; rw [IntWalk.u32_in _ (by omega)]
theorem b_oru32 (t : TypeId) (a b k : Nat) (ha : a % 2 ^ k = 0) (hb : b < 2 ^ k) (h : a + b < 4294967296) : (binOp .or t (.int .u32 (a : Int)) (.int .u32 (b : Int))).run P w = .ok (.int .u32 ((a + b : Nat) : Int)) w := by
  have h1 : bits .or .u32 (a : Int) (b : Int) = ((a + b : Nat) : Int) := by
    rw [u32_or_nat a b (by omega) (by omega)]
    have h2 := Nat.two_pow_add_eq_or_of_lt (i := k) (b := b) hb (a / 2 ^ k)
    have h3 : 2 ^ k * (a / 2 ^ k) = a := by have := Nat.div_add_mod a (2 ^ k); omega
    rw [h3] at h2
    rw [h2]
  simp [go_sem, h1]
end
theorem optsW_cons (o : Opt) (l : List Opt) (b : Bs) : optsW (o :: l) b = if 65535 < o.data.length then none else if 65535 < (b ++ (be2 o.code ++ (be2 o.data.length ++ o.data))).length then none else optsW l (b ++ (be2 o.code ++ (be2 o.data.length ++ o.data))) := rfl
def ewV (e : Ed) : Value := match optsW e.opts [] with
  | some d => .tuple #[.int .u16 e.size, .int .u32 (ttlN e : Nat), .string (mk d), .int .i64 0]
  | none => .tuple #[.int .u16 0, .int .u32 0, .string (mk []), .int .i64 5]
theorem optV_len (o : Opt) : (optV o).length = 2 := rfl
theorem ewrite_spec (e : Ed) (ov : Value) (w0 : World) (hO : RSl w0 2 ov e.opts.length (e.opts.flatMap optV)) (hL : EdL e) (hd : ∀ o ∈ e.opts, o.data.length < 300000) (hl : e.opts.length < 1000000) :
    Rets Tryz.prog 70 [.agg (edV e ov).toArray] w0 fun v w' => v = ewV e ∧ Ext w0 w' := by
  have hH := Hp.refl w0
  obtain ⟨ad, cp, rfl⟩ : ∃ ad cp, ov = .slice ad e.opts.length cp := hO.shape
  have hs := hL.size
  have hx := hL.ext
  have hv := hL.ver
  have hf := hL.flags
  refine rets_start Tryz.func70 rfl Tryz.ntmps70 rfl fun a Q0 hF hret hend => ?_
  simp only [argsFrom, Nat.zero_add, Nat.reduceAdd] at hF
  refine c_sr fun ops => ?_
  refine ls_box hF hH rfl rfl rfl rfl rfl ?_
  intro a w g0_0 hH hE hF
  refine zm 4 hF rfl fun a hF => ?_
  refine c_n ?_
  replace hF := hF.sel [1]
  simp only [ss, Nat.reduceBEq] at hF
  refine c_sr fun ops => ?_
  refine zm 1 hF rfl fun a hF => ?_
  refine c_n ?_
  replace hF := hF.sel [1, 6]
  simp only [ss, Nat.reduceBEq] at hF
  refine c_seq fun Q1 k1 t1 => ?_
  refine c_sr fun ops => ?_
  refine zl hF rfl (r_fieldaddr0 hF rfl rfl fd35_4) fun a hF => ?_
  refine zl hF rfl (r_load hF rfl rfl fl33 (own_cell (i := 0) (v := .slice ad e.opts.length cp) hH rfl rfl)) fun a hF => ?_
  refine zl hF rfl (r_len_sl hF rfl rfl Tryz.underlying33) fun a hF => ?_
  refine zm 1 hF rfl fun a hF => ?_
  refine c_n ?_
  replace hF := hF.sel [1, 6, 10, 11, 12]
  simp only [ss, Nat.reduceBEq] at hF
  refine c_block fun Q2 t2 => ?_
  refine c_loop (fun n a w => ∃ i bi B v6, n = e.opts.length - i ∧ i ≤ e.opts.length ∧ bi.length ≤ 65535 ∧ optsW e.opts [] = optsW (e.opts.drop i) bi ∧ Fr 53 [(1, ptr g0_0), (6, v6), (10, .slice ad e.opts.length cp), (11, .int .i64 (e.opts.length : Nat)), (12, .int .i64 (i : Nat))] a ∧ Hp w0 w (B ++ [(g0_0, .cells (edV e (.slice ad e.opts.length cp)).toArray 35 (0, 0))]) ∧ Sl 5 1 B v6 bi.length (bytV bi)) ?_ ?_
  ·
   exact ⟨_, 0, [], [], _, rfl, Nat.zero_le _, by simp, rfl, hF.keep [1, 6, 10, 11, 12] rfl, hH, Sl.nil _ _⟩
  clear hH hF
  intro n a w hI Q3 k3 t3
  obtain ⟨i, bi, B, v6, hm, hi, hbl, he, hF, hH, hS⟩ := hI
  refine c_sr fun ops => ?_
  refine zb hF rfl rfl rfl (b_ltn _ _ _ _) fun a hF => ?_
  refine c_n ?_
  refine c_seq fun Q4 k4 t4 => ?_
  refine c_fi hF rfl (fun h13 => ?_) (fun h13 => ?_)
  ·
   try simp only [qq] at h13
   rw [List.drop_eq_nil_of_le (by omega), optsW] at he
   refine wp_exit (t4.exit (t3.exit (t2.here (?_))))
   refine k1 ?_
   refine c_seq fun Q9 k9 t9 => ?_
   refine c_planF hF [] [0, 2, 6, 11, 15] [.p 1, .p 3, .p 4, .p 5, .p 7, .p 8, .p 9, .p 10, .p 12, .p 13, .p 14, .p 17, .p 18, .o 16] [] [19, 20] [0, 2, 6, 11, 15, 1, 3, 4, 5, 7, 8, 9, 10, 12, 13, 14, 17, 18, 16] (hH.S) (by kernel_rfl) (by kernel_rfl) rfl ?_
   refine ps hF rfl rfl rfl rfl (fun w => r_fieldaddr0 hF rfl rfl fd35_0) fun a hF => ?_
   refine ps hF rfl rfl rfl rfl (fun w => r_fieldaddr0 hF rfl rfl fd35_1) fun a hF => ?_
   refine ps hF rfl rfl rfl rfl (fun w => r_fieldaddr0 hF rfl rfl fd35_2) fun a hF => ?_
   refine ps hF rfl rfl rfl rfl (fun w => r_fieldaddr0 hF rfl rfl fd35_3) fun a hF => ?_
   refine ps hF rfl rfl rfl rfl (fun w => r_move hF rfl rfl) fun a hF => ?_
   refine pl_start fun w hE => ?_
   replace hH := hH.ext hE
   refine ⟨hH, ?_⟩
   refine pp hF rfl rfl rfl rfl (fun w hH => r_load hF rfl rfl fl28 (mem_cell (v := .int .u16 e.size) hH (List.mem_append_right _ (List.mem_singleton.2 rfl)) rfl)) fun a hF => ?_
   refine pp hF rfl rfl rfl rfl (fun w hH => r_load hF rfl rfl fl5 (mem_cell (v := .int .u8 e.ext) hH (List.mem_append_right _ (List.mem_singleton.2 rfl)) rfl)) fun a hF => ?_
   refine pp hF rfl rfl rfl rfl (fun w hH => r_convin hF rfl rfl (by rw [Tryz.underlying5]; rfl) Tryz.underlying54 (0) 4294967295 mn_u32 mx_u32 (by omega)) fun a hF => ?_
   refine pp hF rfl rfl rfl rfl (fun w hH => zr hF rfl rfl (b_shl24 _ e.ext hx)) fun a hF => ?_
   refine pp hF rfl rfl rfl rfl (fun w hH => r_load hF rfl rfl fl5 (mem_cell (v := .int .u8 e.ver) hH (List.mem_append_right _ (List.mem_singleton.2 rfl)) rfl)) fun a hF => ?_
   refine pp hF rfl rfl rfl rfl (fun w hH => r_convin hF rfl rfl (by rw [Tryz.underlying5]; rfl) Tryz.underlying54 (0) 4294967295 mn_u32 mx_u32 (by omega)) fun a hF => ?_
   refine pp hF rfl rfl rfl rfl (fun w hH => zr hF rfl rfl (b_shl16 _ e.ver hv)) fun a hF => ?_
   refine pp hF rfl rfl rfl rfl (fun w hH => zr hF rfl rfl (b_oru32 _ (e.ext * 16777216) (e.ver * 65536) 24 (by omega) (by omega) (by omega))) fun a hF => ?_
   refine pp hF rfl rfl rfl rfl (fun w hH => r_load hF rfl rfl fl28 (mem_cell (v := .int .u16 e.flags) hH (List.mem_append_right _ (List.mem_singleton.2 rfl)) rfl)) fun a hF => ?_
   refine pp hF rfl rfl rfl rfl (fun w hH => r_convin hF rfl rfl (by rw [Tryz.underlying28]; rfl) Tryz.underlying54 (0) 4294967295 mn_u32 mx_u32 (by omega)) fun a hF => ?_
   refine pp hF rfl rfl rfl rfl (fun w hH => zr hF rfl rfl (b_oru32 _ (e.ext * 16777216 + e.ver * 65536) e.flags 16 (by omega) (by omega) (by omega))) fun a hF => ?_
   refine pp hF rfl rfl rfl rfl (fun w hH => r_assign hF rfl rfl) fun a hF => ?_
   refine pp hF rfl rfl rfl rfl (fun w hH => r_assign hF rfl rfl) fun a hF => ?_
   refine po ?_
   refine zl hF rfl (r_convstr hF rfl rfl Tryz.underlying26 Tryz.underlying5 Tryz.underlying9 (hS.rsl hH fun p hp => List.mem_append_left _ hp)) fun a hF => ?_
   refine wpList_nil (po_end (hH) ?_)
   refine pt ?_
   refine tt ?_
   refine zm 2 hF rfl fun a hF => ?_
   refine pt_end ?_
   replace hF := hF.sel [2, 3, 4, 5]
   simp only [ss, Nat.reduceBEq] at hF
   refine k9 ?_
   refine wp_ret (hret (ret4 hF Tryz.results70 rfl rfl rfl rfl ?_))
   exact ⟨by rw [ewV, he]; rfl, hH.below⟩
  try simp only [qq] at h13
  obtain ⟨ob, oo, e1, hc⟩ := (hO.ext hH.below).elem optV_len h13
  rw [e1] at hF
  obtain ⟨o, ho⟩ : ∃ o, e.opts[i] = o := ⟨_, rfl⟩
  have hom : o ∈ e.opts := by rw [← ho]; exact List.getElem_mem h13
  have hod := hd o hom
  have hoc := (hL.opts o hom).code
  rw [ho] at hc
  rw [List.drop_eq_getElem_cons h13, ho, optsW_cons] at he
  refine wp_skip ?_
  refine k4 ?_
  refine c_seq fun Q5 k5 t5 => ?_
  refine c_block fun Q6 t6 => ?_
  refine c_sr fun ops => ?_
  refine zl hF rfl (r_indexaddr hF _ rfl rfl rfl Tryz.underlying33 ti85 (by omega)) fun a hF => ?_
  refine zl hF rfl (r_loadagg hF rfl rfl Tryz.underlying85 ti85 rfl (hc)) fun a hF => ?_
  refine ls_alloc hF hH rfl rfl rfl rfl zv85 ?_
  intro a w g4_2 hH hE hF
  refine ls_storeagg 0 hF hH rfl rfl rfl rfl rfl ti85 rfl (rfl) (rfl) (by simp [optV, Value.oneCell']) ?_
  intro w hH
  refine c_n ?_
  replace hH : Hp w0 w ([(g4_2, .cells (optV o).toArray 85 (0, 0))] ++ (B ++ [(g0_0, .cells (edV e (.slice ad e.opts.length cp)).toArray 35 (0, 0))])) := hH
  refine c_seq fun Q7 k7 t7 => ?_
  refine c_sr fun ops => ?_
  refine zl hF rfl (r_fieldaddr0 hF rfl rfl fd85_1) fun a hF => ?_
  refine zl hF rfl (r_load hF rfl rfl fl9 (own_cell (i := 0) (v := .string (mk o.data)) hH rfl rfl)) fun a hF => ?_
  refine zl hF rfl (r_len_str hF rfl rfl Tryz.underlying9) fun a hF => ?_
  refine zb hF rfl rfl rfl (b_gtn _ _ _ 65535) fun a hF => ?_
  refine c_n ?_
  refine c_if hF rfl (fun h19 => ?_) (fun h19 => ?_)
  ·
   try simp only [qq] at h19
   refine c_sr fun ops => ?_
   refine zm 4 hF rfl fun a hF => ?_
   refine c_n ?_
   refine wp_ret (t7.ret (t6.ret (t5.ret (t3.ret (t2.ret (t1.ret (hret (ret4 hF Tryz.results70 rfl rfl rfl rfl ?_))))))))
   rw [if_pos (by omega)] at he
   exact ⟨by rw [ewV, he]; rfl, hH.below⟩
  try simp only [qq] at h19
  rw [if_neg (by omega)] at he
  refine wp_skip ?_
  refine k7 ?_
  refine c_seq fun Q8 k8 t8 => ?_
  refine c_planF hF [] [0, 1, 4, 9] [.p 2, .p 5, .p 6, .p 7, .p 10, .o 3, .o 8] [] [11, 12] [0, 1, 4, 9, 2, 5, 6, 7, 10, 3, 8] (fun w => w.cell? ⟨g4_2, 0, none⟩ = some (.int .u16 o.code) ∧ w.cell? ⟨g4_2, 1, none⟩ = some (.string (mk o.data))) (by kernel_rfl) (by kernel_rfl) rfl ?_
  refine ps hF rfl rfl rfl rfl (fun w => r_move hF rfl rfl) fun a hF => ?_
  refine ps hF rfl rfl rfl rfl (fun w => r_fieldaddr0 hF rfl rfl fd85_0) fun a hF => ?_
  refine ps hF rfl rfl rfl rfl (fun w => r_fieldaddr0 hF rfl rfl fd85_1) fun a hF => ?_
  refine ps hF rfl rfl rfl rfl (fun w => r_fieldaddr0 hF rfl rfl fd85_1) fun a hF => ?_
  refine pl_start fun w hE => ?_
  replace hH := hH.ext hE
  refine ⟨⟨own_cell (i := 0) hH rfl rfl, own_cell (i := 0) hH rfl rfl⟩, ?_⟩
  refine pp hF rfl rfl rfl rfl (fun w hH => r_load hF rfl rfl fl28 (hH.1)) fun a hF => ?_
  refine pp hF rfl rfl rfl rfl (fun w hH => r_load hF rfl rfl fl9 (hH.2)) fun a hF => ?_
  refine pp hF rfl rfl rfl rfl (fun w hH => r_len_str hF rfl rfl Tryz.underlying9) fun a hF => ?_
  refine pp hF rfl rfl rfl rfl (fun w hH => r_convin hF rfl rfl (by rw [Tryz.underlying3]; rfl) Tryz.underlying28 (0) 65535 mn_u16 mx_u16 (by omega)) fun a hF => ?_
  refine pp hF rfl rfl rfl rfl (fun w hH => r_load hF rfl rfl fl9 (hH.2)) fun a hF => ?_
  refine po ?_
  refine zc hF rfl rfl fn65 (put2_spec bi o.code _ _ (hS.rsl hH fun p hp => List.mem_append_right _ (List.mem_append_left _ hp)) (by omega) hoc) ?_
  rintro v23 w ⟨B2, hB2, hS2⟩ a hF
  replace hH := hH.join hB2
  refine wpList_nil (po_end (⟨own2 hH rfl, own2 hH rfl⟩) ?_)
  refine po ?_
  refine zc hF rfl rfl fn65 (put2_spec (bi ++ be2 o.code) o.data.length _ _ (by rw [List.length_append, be2_len]; exact hS2.rsl hH fun p hp => List.mem_append_left _ hp) (by rw [List.length_append, be2_len]; omega) (by omega)) ?_
  rintro v28 w ⟨B3, hB3, hS3⟩ a hF
  replace hH := (hH.join hB3).less
  refine wpList_nil (po_end (⟨own2 hH rfl, own2 hH rfl⟩) ?_)
  refine pt ?_
  refine tt ?_
  refine ls_appendstr hF hH rfl rfl rfl rfl rfl rfl Tryz.underlying26 Tryz.underlying9 ti5 zv5 hS3 (by rw [List.length_append, be2_len]; omega) ?_
  intro a v7_11 w B7_11 hH hS3 hF
  refine zm 1 hF rfl fun a hF => ?_
  refine pt_end ?_
  obtain ⟨y, hy⟩ : ∃ y, y = bi ++ (be2 o.code ++ (be2 o.data.length ++ o.data)) := ⟨_, rfl⟩
  have hyl : (bi ++ be2 o.code).length + 2 + o.data.length = y.length := by rw [hy]; simp [be2_len]; omega
  rw [hyl, ← bytV_append, show bi ++ be2 o.code ++ be2 o.data.length ++ o.data = y by rw [hy]; simp] at hS3
  rw [← hy] at he
  obtain ⟨yad, ycp, hyv⟩ := hS3.shape
  rw [hyv] at hF hS3
  refine k8 ?_
  refine c_sr fun ops => ?_
  refine zm 1 hF rfl fun a hF => ?_
  refine zl hF rfl (r_len_sl hF rfl rfl Tryz.underlying26) fun a hF => ?_
  refine zb hF rfl rfl rfl (b_gtn _ _ _ 65535) fun a hF => ?_
  refine c_n ?_
  refine c_if hF rfl (fun h34 => ?_) (fun h34 => ?_)
  ·
   try simp only [qq] at h34
   refine c_sr fun ops => ?_
   refine zm 4 hF rfl fun a hF => ?_
   refine c_n ?_
   refine wp_ret (t6.ret (t5.ret (t3.ret (t2.ret (t1.ret (hret (ret4 hF Tryz.results70 rfl rfl rfl rfl ?_)))))))
   rw [if_pos (by omega)] at he
   exact ⟨by rw [ewV, he]; rfl, hH.below⟩
  try simp only [qq] at h34
  refine wp_skip ?_
  refine t6.norm ?_
  refine k5 ?_
  refine c_reg fun ops => ?_
  refine zb hF rfl rfl rfl (b_addn _ _ 1 (by omega)) fun a hF => ?_
  refine zm 1 hF rfl fun a hF => ?_
  refine wpList_nil ?_
  refine k3 ?_
  rw [if_neg (by omega)] at he
  rw [← e1] at hF
  exact ⟨e.opts.length - (i + 1), by omega, i + 1, y, _, _, rfl, h13, by omega, he, hF.keep [1, 6, 10, 11, 12] rfl, (hH.pick (R := [(g4_2, .cells (optV o).toArray 85 (0, 0))] ++ B) (fun z => by simp only [List.count_append]; omega)), hS3⟩
end Go.Proofs.YtpoebplhemimmaaGreatDoor
namespace Go.Proofs.YtpoebplhemimmaaGreatDoor
open Go.RowKit
set_option linter.unusedVariables false
set_option linter.unusedSimpArgs false
set_option maxHeartbeats 1000000

theorem mem_agg {w0 w : World} {H : List (Nat × Obj)} {g : Nat} {cur : Array Value} {e : TypeId} {fr : Nat × Nat} (hH : Hp w0 w H) (hi : (g, Obj.cells cur e fr) ∈ H) : ∀ j u, cur.toList[j]? = some u → w.cell? ⟨g, 0 + j, none⟩ = some u := fun j u hu => by
  rw [Nat.zero_add]; exact mem_cell hH hi (by simpa using hu)
theorem mem_sub {w0 w : World} {H : List (Nat × Obj)} {g off : Nat} {cs : List Value} {cur : Array Value} {e : TypeId} {fr : Nat × Nat} (hH : Hp w0 w H) (hi : (g, Obj.cells cur e fr) ∈ H) (hs : ∀ j u, cs[j]? = some u → cur[off + j]? = some u) : ∀ j u, cs[j]? = some u → w.cell? ⟨g, off + j, none⟩ = some u := fun j u hu =>
  mem_cell hH hi (hs j u hu)
theorem own2_agg {w0 w : World} {A H : List (Nat × Obj)} {g : Nat} {cur : Array Value} {e : TypeId} {fr : Nat × Nat} (hH : Hp w0 w (A ++ ([(g, .cells cur e fr)] ++ H))) : ∀ j u, cur.toList[j]? = some u → w.cell? ⟨g, 0 + j, none⟩ = some u :=
  mem_agg hH (List.mem_append_right _ (List.mem_append_left _ (List.mem_singleton.2 rfl)))
theorem optsW_len : ∀ (l : List Opt) (b d : Bs), b.length ≤ 65535 → optsW l b = some d → d.length ≤ 65535
  | [], b, d, hb, h => by cases h; exact hb
  | o :: l, b, d, hb, h => by
    rw [optsW_cons] at h
    split at h
    · cases h
    · split at h
      · cases h
      · exact optsW_len l _ d (by omega) h
theorem ewV_cases (e : Ed) : ∃ (c t : Nat) (d : Bs) (n : Nat), ewV e = .tuple #[.int .u16 (c : Nat), .int .u32 (t : Nat), .string (mk d), .int .i64 (n : Nat)] ∧ ((n = 0 ∧ optsW e.opts [] = some d ∧ c = e.size ∧ t = ttlN e ∧ d.length ≤ 65535) ∨ (n = 5 ∧ optsW e.opts [] = none)) := by
  unfold ewV
  cases h : optsW e.opts [] with
  | none => exact ⟨0, 0, [], 5, rfl, .inr ⟨rfl, rfl⟩⟩
  | some d => exact ⟨_, _, d, 0, rfl, .inl ⟨rfl, rfl, rfl, rfl, optsW_len _ _ _ (by simp) h⟩⟩
theorem ttlN_lt {e : Ed} (h : EdL e) : ttlN e < 4294967296 := by
  have h1 := h.ext; have h2 := h.ver; have h3 := h.flags
  unfold ttlN; omega
section
variable {w0 w1 : World} {H HW : List (Nat × Obj)} {gw gt : Nat} {b : Bs} {tb : Tab}
theorem wopt_spec (e : Ed) (ov : Value) (hO : RSl w1 2 ov e.opts.length (e.opts.flatMap optV)) (hL : EdL e) (hd : ∀ o ∈ e.opts, o.data.length < 300000) (hl : e.opts.length < 1000000) (hW : WrB gw gt b tb HW) (hH0 : Hp w0 w1 (HW ++ H)) (hb : b.length ≤ 65535) :
    RetsT Tryz.prog 45 [ptr gw, .agg (edV e ov).toArray] w1 (fun v w' => v = .tuple #[] ∧ ∃ d, optsW e.opts [] = some d ∧ ∃ HW', WrB gw gt (b ++ optW e d) tb HW' ∧ Hp w0 w' (HW' ++ H))
      fun n w' => n = 5 ∧ optsW e.opts [] = none ∧ Hp w0 w' H := by
  obtain ⟨c, t, d, n, hev, hcase⟩ := ewV_cases e
  have hsz := hL.size
  have htl := ttlN_lt hL
  obtain ⟨oad, ocp, hov⟩ := hO.shape
  have hH := hH0
  refine rets_startT Tryz.func45 rfl Tryz.ntmps45 rfl fun a Q0 hF hret hend hpan => ?_
  simp only [argsFrom, Nat.zero_add, Nat.reduceAdd] at hF
  refine c_sr fun ops => ?_
  refine ls_box hF hH rfl rfl rfl rfl rfl ?_
  intro a w g0_0 hH hE hF
  refine c_n ?_
  replace hF := hF.sel [0, 3]
  simp only [ss, Nat.reduceBEq] at hF
  replace hH : Hp w0 w (HW ++ ([(g0_0, .cells (edV e ov).toArray 35 (0, 0))] ++ H)) := (show Hp w0 w ([(g0_0, .cells (edV e ov).toArray 35 (0, 0))] ++ (HW ++ H)) from hH).flip
  replace hO := hO.ext hE
  refine c_sr fun ops => ?_
  refine zl hF rfl (r_loadagg hF rfl rfl Tryz.underlying35 ti35 rfl (own2_agg hH)) fun a hF => ?_
  refine zc hF rfl rfl fn70 (ewrite_spec e ov _ hO hL hd hl) ?_
  rintro _ w ⟨rfl, hE⟩ a hF
  rw [hev] at hF; replace hH := hH.ext hE
  refine zm 9 hF rfl fun a hF => ?_
  refine c_n ?_
  replace hF := hF.sel [0, 4, 5, 6, 7]
  simp only [ss, Nat.reduceBEq] at hF
  refine c_sr fun ops => ?_
  refine zm 1 hF rfl fun a hF => ?_
  refine ls_callT hF rfl rfl rfl rfl rfl fn21 (must_spec n _) (fun n w hE => hpan hF (by
    rcases hcase with h | h
    · exact absurd h.1 hE.2.1
    · exact ⟨hE.1.trans h.1, h.2, (hH.ext hE.2.2).pick (R := HW ++ [(g0_0, .cells (edV e ov).toArray 35 (0, 0))]) (fun z => by simp only [List.count_append]; omega)⟩)) ?_
  rintro _ w ⟨rfl, hn0, hE⟩ a hF
  replace hH := hH.ext hE
  refine c_n ?_
  replace hF := hF.sel [0, 4, 5, 6]
  simp only [ss, Nat.reduceBEq] at hF
  obtain ⟨_, hopt, rfl, rfl, hdl⟩ := hcase.resolve_right (fun h => by rw [h.1] at hn0; cases hn0)
  obtain ⟨bv, B, BT, hHW, hS, hT, hTS⟩ := hW
  rw [hHW] at hH
  replace hH : Hp w0 w ([(gw, wrO bv gt)] ++ (B ++ (BT ++ ([(g0_0, .cells (edV e ov).toArray 35 (0, 0))] ++ H)))) := by rw [List.append_assoc, List.append_assoc] at hH; exact hH
  refine c_sr fun ops => ?_
  refine zm 2 hF rfl fun a hF => ?_
  refine zl hF rfl (r_nilcheck hF rfl rfl) fun a hF => ?_
  refine zl hF rfl (r_fieldaddr0 hF rfl rfl fd94_0) fun a hF => ?_
  refine zl hF rfl (r_load hF rfl rfl fl26 (own_cell (i := 0) (v := bv) hH rfl rfl)) fun a hF => ?_
  replace hH := hH.flip
  refine ls_appendstrB hF hH rfl rfl rfl rfl rfl rfl Tryz.underlying26 Tryz.underlying9 ti5 zv5 hS (by simp; omega) ?_
  intro a v3_5 w B3_5 hH hS hF
  refine zl hF rfl (r_nilcheck hF rfl rfl) fun a hF => ?_
  refine zl hF rfl (r_fieldaddr0 hF rfl rfl fd94_0) fun a hF => ?_
  replace hH := hH.flip
  refine ls_store 0 hF hH rfl rfl rfl rfl rfl fl26 ti26 rfl (by simp) (by simp [noFreeze]) (hS.one) ?_
  intro w hH
  refine c_n ?_
  replace hF := hF.sel [0, 4, 5, 6]
  simp only [ss, Nat.reduceBEq] at hF
  have hW3 : WrB gw gt (b ++ [0]) tb ([(gw, wrO v3_5 gt)] ++ (B3_5 ++ BT)) := ⟨_, B3_5, BT, rfl, by rw [List.length_append, bytV_append]; exact hS, hT, hTS⟩
  have hH3 : Hp w0 w ([(gw, wrO v3_5 gt)] ++ (B3_5 ++ BT) ++ ([(g0_0, .cells (edV e ov).toArray 35 (0, 0))] ++ H)) := by rw [List.append_assoc, List.append_assoc]; exact hH
  clear hH hS hT
  refine c_sr fun ops => ?_
  refine zm 1 hF rfl fun a hF => ?_
  refine zc hF rfl rfl fn42 (wtwo_spec 41 (by omega) hW3 hH3 (by simp; omega)) ?_
  rintro _ w ⟨rfl, HW, hW, hH⟩ a hF
  skip
  refine c_n ?_
  replace hF := hF.sel [0, 4, 5, 6]
  simp only [ss, Nat.reduceBEq] at hF
  refine c_sr fun ops => ?_
  refine zm 2 hF rfl fun a hF => ?_
  refine zc hF rfl rfl fn42 (wtwo_spec e.size hsz hW hH (by simp [be2_len]; omega)) ?_
  rintro _ w ⟨rfl, HW, hW, hH⟩ a hF
  skip
  refine c_n ?_
  replace hF := hF.sel [0, 5, 6]
  simp only [ss, Nat.reduceBEq] at hF
  refine c_sr fun ops => ?_
  refine zm 2 hF rfl fun a hF => ?_
  refine zc hF rfl rfl fn68 (wfour_spec (ttlN e) htl hW hH (by simp [be2_len]; omega)) ?_
  rintro _ w ⟨rfl, HW, hW, hH⟩ a hF
  skip
  refine c_n ?_
  replace hF := hF.sel [0, 6]
  simp only [ss, Nat.reduceBEq] at hF
  refine c_sr fun ops => ?_
  refine zm 2 hF rfl fun a hF => ?_
  refine zl hF rfl (r_len_str hF rfl rfl Tryz.underlying9) fun a hF => ?_
  refine zl hF rfl (r_convin hF rfl rfl (by rw [Tryz.underlying3]; rfl) Tryz.underlying28 (0) 65535 mn_u16 mx_u16 (by omega)) fun a hF => ?_
  refine zc hF rfl rfl fn42 (wtwo_spec d.length (by omega) hW hH (by simp [be2_len, be4_len]; omega)) ?_
  rintro _ w ⟨rfl, HW, hW, hH⟩ a hF
  skip
  refine c_n ?_
  replace hF := hF.sel [0, 6]
  simp only [ss, Nat.reduceBEq] at hF
  obtain ⟨x, hx⟩ : ∃ x, x = b ++ [0] ++ be2 41 ++ be2 e.size ++ be4 (ttlN e) ++ be2 d.length := ⟨_, rfl⟩
  rw [← hx] at hW
  have hxl : x.length = b.length + 11 := by rw [hx]; simp [be2_len, be4_len]
  have hxe : b ++ optW e d = x ++ d := by rw [hx]; simp [optW]
  obtain ⟨bv8, B8, BT8, hHW8, hS8, hT8, hTS8⟩ := hW
  rw [hHW8] at hH
  replace hH : Hp w0 w ([(gw, wrO bv8 gt)] ++ (B8 ++ (BT8 ++ ([(g0_0, .cells (edV e ov).toArray 35 (0, 0))] ++ H)))) := by rw [List.append_assoc, List.append_assoc] at hH; exact hH
  refine c_reg fun ops => ?_
  refine zm 2 hF rfl fun a hF => ?_
  refine zl hF rfl (r_nilcheck hF rfl rfl) fun a hF => ?_
  refine zl hF rfl (r_fieldaddr0 hF rfl rfl fd94_0) fun a hF => ?_
  refine zl hF rfl (r_load hF rfl rfl fl26 (own_cell (i := 0) (v := bv8) hH rfl rfl)) fun a hF => ?_
  refine zm 1 hF rfl fun a hF => ?_
  replace hH := hH.flip
  refine ls_appendstrB hF hH rfl rfl rfl rfl rfl rfl Tryz.underlying26 Tryz.underlying9 ti5 zv5 hS8 (by omega) ?_
  intro a v8_6 w B8_6 hH hS8 hF
  refine zl hF rfl (r_nilcheck hF rfl rfl) fun a hF => ?_
  refine zl hF rfl (r_fieldaddr0 hF rfl rfl fd94_0) fun a hF => ?_
  replace hH := hH.flip
  refine ls_store 0 hF hH rfl rfl rfl rfl rfl fl26 ti26 rfl (by simp) (by simp [noFreeze]) (hS8.one) ?_
  intro w hH
  refine wpList_nil ?_
  replace hF := hF.sel []
  simp only [ss, Nat.reduceBEq] at hF
  refine hend (fall0 (fn := Tryz.f45) hF Tryz.results45 ?_)
  refine ⟨rfl, d, hopt, [(gw, wrO v8_6 gt)] ++ (B8_6 ++ BT8), ⟨_, B8_6, BT8, rfl, ?_, hT8, hTS8⟩, ?_⟩
  · rw [hxe, List.length_append, bytV_append]; exact hS8
  · rw [List.append_assoc, List.append_assoc]
    exact (show Hp w0 w ([(gw, wrO v8_6 gt)] ++ (B8_6 ++ (BT8 ++ ([(g0_0, .cells (edV e ov).toArray 35 (0, 0))] ++ H)))) from hH).pick (R := [(g0_0, .cells (edV e ov).toArray 35 (0, 0))]) (fun z => by simp only [List.count_append]; omega)
end
end Go.Proofs.YtpoebplhemimmaaGreatDoor
