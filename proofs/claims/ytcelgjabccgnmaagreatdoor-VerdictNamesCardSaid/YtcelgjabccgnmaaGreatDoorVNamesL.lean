/-
  What VerdictNames asks: fourteen messages, their verdicts. No program is in sight here, but for the cells.
-/
import Derived.Test.YtcelgjabccgnmaaGreatDoorVEnd
namespace Go.Proofs.YtcelgjabccgnmaaGreatDoor
open Go.RowKit
set_option linter.unusedVariables false
set_option linter.unusedSimpArgs false

def nA : Rec := ⟨[1, 97, 0], 1, 1, 7, [10, 0, 0, 1]⟩
def nC : Rec := ⟨[1, 97, 0], 1, 1, 2147483647, [10, 0, 0, 2]⟩
def nD : Rec := ⟨[1, 97, 0], 1, 1, 2147483648, [10, 0, 0, 1]⟩
def nF : Rec := ⟨[1, 97, 0], 5, 1, 4, [1, 97, 0]⟩
def nB : Rec := ⟨[1, 98, 0], 1, 1, 7, [10, 0, 0, 1]⟩
def zA : Rec := zoneR [0] 9 9
def zB : Rec := ⟨[0], 6, 1, 9, [1, 120] ++ zA.data⟩
def nV : Verd := ⟨0, [⟨[1, 97, 0], 1, 1, 0, [[10, 0, 0, 1]]⟩], []⟩
def entN (c : Nat) (av uv xv : Value) (n t k : Nat) : List Value := msgV (msgOf c [] []) nilV av uv xv nilV ++ [.int .i64 (n : Nat), .int .u32 (t : Nat), .int .i64 (k : Nat)]
/-- A row of the table: the message, and what its verdict is. -/
def RowOk (w : World) (e : List Value) : Prop := ∃ c ans auth av uv xv n t k X, e = entN c av uv xv n t k ∧ RSl w 5 av ans.length (recsV ans) ∧ RSl w 5 uv auth.length (recsV auth) ∧ xv.oneCell' = true ∧ RecsB ans ∧ RecsB auth ∧
  verdN [1, 65, 0] 1 1 c ans auth = (k, X, t) ∧ X.sets.length = n ∧ VerdM X
theorem RowOk.ext {w w' : World} {e : List Value} (h : RowOk w e) (he : Ext w w') : RowOk w' e := by
  obtain ⟨c, ans, auth, av, uv, xv, n, t, k, X, h1, h2, h3, h4⟩ := h
  exact ⟨c, ans, auth, av, uv, xv, n, t, k, X, h1, h2.ext he, h3.ext he, h4⟩
theorem RowOk.len {w : World} {e : List Value} (h : RowOk w e) : e.length = 24 := by
  obtain ⟨c, ans, auth, av, uv, xv, n, t, k, X, rfl, _⟩ := h
  rfl
def EntB (w : World) (v : Value) : Prop := ∃ e : List Value, v = .agg e.toArray ∧ RowOk w e
theorem EntB.ext {w w' : World} {v : Value} (h : EntB w v) (he : Ext w w') : EntB w' v := by
  obtain ⟨e, h1, h2⟩ := h
  exact ⟨e, h1, h2.ext he⟩
def MsgB (w : World) (v : Value) (c : Nat) (ans auth : List Rec) : Prop := ∃ av uv xv, v = .agg (msgV (msgOf c [] []) nilV av uv xv nilV).toArray ∧ RSl w 5 av ans.length (recsV ans) ∧ RSl w 5 uv auth.length (recsV auth) ∧ xv.oneCell' = true
theorem MsgB.ext {w w' : World} {v : Value} {c : Nat} {ans auth : List Rec} (h : MsgB w v c ans auth) (he : Ext w w') : MsgB w' v c ans auth := by
  obtain ⟨av, uv, xv, h1, h2, h3, h4⟩ := h
  exact ⟨av, uv, xv, h1, h2.ext he, h3.ext he, h4⟩
theorem RSl.oneN {w : World} {size n : Nat} {v : Value} {xs : List Value} (h : RSl w size v n xs) : v.oneCell' = true := by
  obtain ⟨_, _, e⟩ := h.shape; rw [e]; rfl
theorem flat24 : ∀ (T : List (List Value)) (i j : Nat) (u : Value) (h : i < T.length), (∀ e ∈ T, e.length = 24) → T[i][j]? = some u → T.flatten[i * 24 + j]? = some u
  | [], i, j, u, h, _, _ => by simp at h
  | e :: T, 0, j, u, h, hl, hu => by
    have hu' : e[j]? = some u := hu
    rw [Nat.zero_mul, Nat.zero_add, List.flatten_cons, List.getElem?_append_left (List.getElem?_eq_some_iff.1 hu').1]; exact hu'
  | e :: T, i + 1, j, u, h, hl, hu => by
    have h1 := hl e (List.mem_cons_self ..)
    rw [List.flatten_cons, List.getElem?_append_right (by omega), h1, show (i + 1) * 24 + j - 24 = i * 24 + j by omega]
    exact flat24 T i j u (by simpa using h) (fun x hx => hl x (List.mem_cons_of_mem _ hx)) hu
theorem ent_cells {w0 w : World} {H : List (Nat × Obj)} {i g c n t k : Nat} {av uv xv : Value} {e : TypeId} {fr : Nat × Nat} (hH : Hp w0 w H) (hi : H[i]? = some (g, .cells (entN c av uv xv n t k).toArray e fr)) :
    ∀ j u, (msgV (msgOf c [] []) nilV av uv xv nilV).toArray.toList[j]? = some u → w.cell? ⟨g, 0 + j, none⟩ = some u := by
  intro j u hu
  refine own_agg hH hi j u ?_
  show (entN c av uv xv n t k)[j]? = some u
  have hu' : (msgV (msgOf c [] []) nilV av uv xv nilV)[j]? = some u := hu
  unfold entN
  rw [List.getElem?_append_left (List.getElem?_eq_some_iff.1 hu').1]; exact hu'
theorem nV_m : VerdM nV := ⟨by decide, by decide, by decide, by decide⟩
theorem nrow0 {w : World} {av uv xv : Value} (h1 : RSl w 5 av 1 (recsV [nA])) (h2 : RSl w 5 uv 0 (recsV [])) (h3 : xv.oneCell' = true) : EntB w (.agg (entN 0 av uv xv 1 7 0).toArray) :=
  ⟨_, rfl, 0, [nA], [], av, uv, xv, 1, 7, 0, nV, rfl, h1, h2, h3, recsB_of (by decide), recsB_of (by decide), by kernel_rfl, rfl, ⟨by decide, by decide, by decide, by decide⟩⟩
theorem nrow1 {w : World} {av uv xv : Value} (h1 : RSl w 5 av 3 (recsV [nA, nC, nB])) (h2 : RSl w 5 uv 0 (recsV [])) (h3 : xv.oneCell' = true) : EntB w (.agg (entN 0 av uv xv 1 7 0).toArray) :=
  ⟨_, rfl, 0, [nA, nC, nB], [], av, uv, xv, 1, 7, 0, ⟨0, [⟨[1, 97, 0], 1, 1, 0, [[10, 0, 0, 1], [10, 0, 0, 2]]⟩], []⟩, rfl, h1, h2, h3, recsB_of (by decide), recsB_of (by decide), by kernel_rfl, rfl, ⟨by decide, by decide, by decide, by decide⟩⟩
theorem nrow2 {w : World} {av uv xv : Value} (h1 : RSl w 5 av 1 (recsV [nC])) (h2 : RSl w 5 uv 0 (recsV [])) (h3 : xv.oneCell' = true) : EntB w (.agg (entN 0 av uv xv 1 2147483647 0).toArray) :=
  ⟨_, rfl, 0, [nC], [], av, uv, xv, 1, 2147483647, 0, ⟨0, [⟨[1, 97, 0], 1, 1, 0, [[10, 0, 0, 2]]⟩], []⟩, rfl, h1, h2, h3, recsB_of (by decide), recsB_of (by decide), by kernel_rfl, rfl, ⟨by decide, by decide, by decide, by decide⟩⟩
theorem nrow3 {w : World} {av uv xv : Value} (h1 : RSl w 5 av 2 (recsV [nA, nD])) (h2 : RSl w 5 uv 0 (recsV [])) (h3 : xv.oneCell' = true) : EntB w (.agg (entN 0 av uv xv 1 0 0).toArray) :=
  ⟨_, rfl, 0, [nA, nD], [], av, uv, xv, 1, 0, 0, nV, rfl, h1, h2, h3, recsB_of (by decide), recsB_of (by decide), by kernel_rfl, rfl, ⟨by decide, by decide, by decide, by decide⟩⟩
theorem nrow4 {w : World} {av uv xv : Value} (h1 : RSl w 5 av 1 (recsV [nA])) (h2 : RSl w 5 uv 0 (recsV [])) (h3 : xv.oneCell' = true) : EntB w (.agg (entN 3 av uv xv 0 0 3).toArray) :=
  ⟨_, rfl, 3, [nA], [], av, uv, xv, 0, 0, 3, noVerd, rfl, h1, h2, h3, recsB_of (by decide), recsB_of (by decide), by kernel_rfl, rfl, ⟨by decide, by decide, by decide, by decide⟩⟩
theorem nrow5 {w : World} {av uv xv : Value} (h1 : RSl w 5 av 1 (recsV [nA])) (h2 : RSl w 5 uv 0 (recsV [])) (h3 : xv.oneCell' = true) : EntB w (.agg (entN 2 av uv xv 0 0 1).toArray) :=
  ⟨_, rfl, 2, [nA], [], av, uv, xv, 0, 0, 1, noVerd, rfl, h1, h2, h3, recsB_of (by decide), recsB_of (by decide), by kernel_rfl, rfl, ⟨by decide, by decide, by decide, by decide⟩⟩
theorem nrow6 {w : World} {av uv xv : Value} (h1 : RSl w 5 av 0 (recsV [])) (h2 : RSl w 5 uv 0 (recsV [])) (h3 : xv.oneCell' = true) : EntB w (.agg (entN 19 av uv xv 0 0 1).toArray) :=
  ⟨_, rfl, 19, [], [], av, uv, xv, 0, 0, 1, noVerd, rfl, h1, h2, h3, recsB_of (by decide), recsB_of (by decide), by kernel_rfl, rfl, ⟨by decide, by decide, by decide, by decide⟩⟩
theorem nrow7 {w : World} {av uv xv : Value} (h1 : RSl w 5 av 1 (recsV [nF])) (h2 : RSl w 5 uv 0 (recsV [])) (h3 : xv.oneCell' = true) : EntB w (.agg (entN 0 av uv xv 0 0 8).toArray) :=
  ⟨_, rfl, 0, [nF], [], av, uv, xv, 0, 0, 8, noVerd, rfl, h1, h2, h3, recsB_of (by decide), recsB_of (by decide), by kernel_rfl, rfl, ⟨by decide, by decide, by decide, by decide⟩⟩
theorem nrow8 {w : World} {av uv xv : Value} (h1 : RSl w 5 av 2 (recsV [nF, nA])) (h2 : RSl w 5 uv 0 (recsV [])) (h3 : xv.oneCell' = true) : EntB w (.agg (entN 0 av uv xv 0 0 3).toArray) :=
  ⟨_, rfl, 0, [nF, nA], [], av, uv, xv, 0, 0, 3, noVerd, rfl, h1, h2, h3, recsB_of (by decide), recsB_of (by decide), by kernel_rfl, rfl, ⟨by decide, by decide, by decide, by decide⟩⟩
theorem nrow9 {w : World} {av uv xv : Value} (h1 : RSl w 5 av 0 (recsV [])) (h2 : RSl w 5 uv 2 (recsV [zA, zB])) (h3 : xv.oneCell' = true) : EntB w (.agg (entN 0 av uv xv 0 0 3).toArray) :=
  ⟨_, rfl, 0, [], [zA, zB], av, uv, xv, 0, 0, 3, noVerd, rfl, h1, h2, h3, recsB_of (by decide), recsB_of (by decide), by kernel_rfl, rfl, ⟨by decide, by decide, by decide, by decide⟩⟩
theorem nrow10 {w : World} {av uv xv : Value} (h1 : RSl w 5 av 1 (recsV [nA])) (h2 : RSl w 5 uv 2 (recsV [zA, zB])) (h3 : xv.oneCell' = true) : EntB w (.agg (entN 0 av uv xv 1 7 0).toArray) :=
  ⟨_, rfl, 0, [nA], [zA, zB], av, uv, xv, 1, 7, 0, nV, rfl, h1, h2, h3, recsB_of (by decide), recsB_of (by decide), by kernel_rfl, rfl, ⟨by decide, by decide, by decide, by decide⟩⟩
theorem nrow11 {w : World} {av uv xv : Value} (h1 : RSl w 5 av 0 (recsV [])) (h2 : RSl w 5 uv 1 (recsV [zA])) (h3 : xv.oneCell' = true) : EntB w (.agg (entN 3 av uv xv 0 9 0).toArray) :=
  ⟨_, rfl, 3, [], [zA], av, uv, xv, 0, 9, 0, ⟨3, [], [⟨[0], 6, 1, 0, [[0, 0] ++ List.replicate 19 0 ++ [9]]⟩]⟩, rfl, h1, h2, h3, recsB_of (by decide), recsB_of (by decide), by kernel_rfl, rfl, ⟨by decide, by decide, by decide, by decide⟩⟩
theorem nrow12 {w : World} {av uv xv : Value} (h1 : RSl w 5 av 0 (recsV [])) (h2 : RSl w 5 uv 1 (recsV [zoneR [1, 98, 0] 9 9])) (h3 : xv.oneCell' = true) : EntB w (.agg (entN 0 av uv xv 0 0 0).toArray) :=
  ⟨_, rfl, 0, [], [zoneR [1, 98, 0] 9 9], av, uv, xv, 0, 0, 0, ⟨0, [], []⟩, rfl, h1, h2, h3, recsB_of (by decide), recsB_of (by decide), by kernel_rfl, rfl, ⟨by decide, by decide, by decide, by decide⟩⟩
theorem nrow13 {w : World} {av uv xv : Value} (h1 : RSl w 5 av 1 (recsV [nB])) (h2 : RSl w 5 uv 2 (recsV [nA, zoneR [1, 97, 0] 5 9])) (h3 : xv.oneCell' = true) : EntB w (.agg (entN 0 av uv xv 0 5 0).toArray) :=
  ⟨_, rfl, 0, [nB], [nA, zoneR [1, 97, 0] 5 9], av, uv, xv, 0, 5, 0, ⟨0, [], [⟨[1, 97, 0], 6, 1, 0, [[0, 0] ++ List.replicate 19 0 ++ [9]]⟩]⟩, rfl, h1, h2, h3, recsB_of (by decide), recsB_of (by decide), by kernel_rfl, rfl, ⟨by decide, by decide, by decide, by decide⟩⟩
end Go.Proofs.YtcelgjabccgnmaaGreatDoor
