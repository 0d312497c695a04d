/-
  The walks of package rrset. Nothing is claimed here.
  Messages, and their cells. Nothing is claimed here.
  Sets of one's own, in memory: a row of sets, each with data of its own. Nothing is claimed here.
  The walk of slices.BinarySearchFunc at sets, with package rrset's order. Nothing is claimed here.
-/
import Derived.Test.YtpoebplhemimmaaGreatDoorRef5
namespace Go.Proofs.YtpoebplhemimmaaGreatDoor
open Go.RowKit
set_option linter.unusedVariables false
set_option linter.unusedSimpArgs false
set_option maxHeartbeats 1000000

/-- A record's cells; a set's, its data in a slice. -/
def recV (r : Rec) : List Value := [.string (mk r.name), .int .u16 r.kind, .int .u16 r.cls, .int .u32 r.ttl, .string (mk r.data)]
def recsV (l : List Rec) : List Value := (l.map recV).flatten
def setV (s : RSet) (dv : Value) : List Value := [.string (mk s.name), .int .u16 s.kind, .int .u16 s.cls, .int .u32 s.ttl, dv]





/-- The cells of sets. -/
def setsV (l : List RSet) (dvs : List Value) : List Value := (List.zipWith setV l dvs).flatten
theorem setsV_cons (s : RSet) (l : List RSet) (d : Value) (ds : List Value) : setsV (s :: l) (d :: ds) = setV s d ++ setsV l ds := rfl
theorem setsV_get : ∀ {l : List RSet} {dvs : List Value} {i : Nat} (h : i < l.length) (h2 : i < dvs.length) (j : Nat) (u : Value), (setV l[i] dvs[i])[j]? = some u → (setsV l dvs)[i * 5 + j]? = some u
  | [], _, _, h, _, _, _, _ => by simp at h
  | _ :: _, [], _, _, h, _, _, _ => by simp at h
  | s :: l, d :: ds, 0, h, h2, j, u, hu => by
    rw [setsV_cons, Nat.zero_mul, Nat.zero_add, List.getElem?_append_left]
    · exact hu
    · exact (List.getElem?_eq_some_iff.1 hu).1
  | s :: l, d :: ds, i + 1, h, h2, j, u, hu => by
    rw [setsV_cons, List.getElem?_append_right (by simp [setV]; omega), show (i + 1) * 5 + j - (setV s d).length = i * 5 + j by simp [setV]; omega]
    exact setsV_get (l := l) (dvs := ds) (by simpa using h) (by simpa using h2) j u (by simpa using hu)
/-- Sets that are read. -/
def SetsR (w : World) (v : Value) (l : List RSet) : Prop := ∃ dvs : List Value, ∃ hd : dvs.length = l.length, RSl w 5 v l.length (setsV l dvs) ∧ ∀ i (h : i < l.length), RSl w 1 (dvs[i]'(by omega)) l[i].data.length (strV l[i].data)
theorem SetsR.ext {w w' : World} {v : Value} {l : List RSet} (h : SetsR w v l) (he : Ext w w') : SetsR w' v l := by
  obtain ⟨dvs, hd, h1, h2⟩ := h
  exact ⟨dvs, hd, h1.ext he, fun i h => (h2 i h).ext he⟩
theorem SetsR.at {w : World} {ad : Option Addr} {cap : Nat} {l : List RSet} (h : SetsR w (.slice ad l.length cap) l) {i : Nat} (hi : i < l.length) :
    ∃ b off dv, ad = some ⟨b, off, none⟩ ∧ (∀ j u, (setV l[i] dv)[j]? = some u → w.cell? ⟨b, off + i * 5 + j, none⟩ = some u) ∧ RSl w 1 dv l[i].data.length (strV l[i].data) := by
  obtain ⟨dvs, hd, ⟨h1, ad', cap', hv, _, _, h3⟩, h2⟩ := h
  cases hv
  rcases h3 with ⟨_, _, h0⟩ | ⟨b, off, rfl, hc⟩
  · omega
  · exact ⟨b, off, dvs[i]'(by omega), rfl, fun j u hu => by rw [Nat.add_assoc]; exact hc _ u (setsV_get hi (by omega) j u hu), h2 i hi⟩

end Go.Proofs.YtpoebplhemimmaaGreatDoor
namespace Go.Proofs.YtpoebplhemimmaaGreatDoor
open Go.RowKit
set_option linter.unusedVariables false

structure RecL (r : Rec) : Prop where
  name : r.name.length ≤ 140737488351232
  kind : r.kind < 65536
  cls : r.cls < 65536
  ttl : r.ttl < 4294967296
  data : r.data.length ≤ 140737488351232
structure Hd where
  id : Nat
  qr : Bool
  op : Nat
  aa : Bool
  tc : Bool
  rd : Bool
  ra : Bool
  z : Bool
  ad : Bool
  cd : Bool
  code : Nat
def hdV (h : Hd) : List Value := [.int .u16 h.id, .bool h.qr, .int .u8 h.op, .bool h.aa, .bool h.tc, .bool h.rd, .bool h.ra, .bool h.z, .bool h.ad, .bool h.cd, .int .u8 h.code]
structure HdL (h : Hd) : Prop where
  id : h.id < 65536
  op : h.op < 256
  code : h.code < 256
structure Que where
  name : Bs
  kind : Nat
  cls : Nat
instance : Inhabited Que := ⟨⟨[], 0, 0⟩⟩
def quV (q : Que) : List Value := [.string (mk q.name), .int .u16 q.kind, .int .u16 q.cls]
structure QueL (q : Que) : Prop where
  name : q.name.length ≤ 140737488351232
  kind : q.kind < 65536
  cls : q.cls < 65536
structure Opt where
  code : Nat
  data : Bs
instance : Inhabited Opt := ⟨⟨0, []⟩⟩
def optV (o : Opt) : List Value := [.int .u16 o.code, .string (mk o.data)]
structure OptL (o : Opt) : Prop where
  code : o.code < 65536
  data : o.data.length ≤ 140737488351232
structure Ed where
  size : Nat
  ext : Nat
  ver : Nat
  flags : Nat
  opts : List Opt
def edV (e : Ed) (ov : Value) : List Value := [.int .u16 e.size, .int .u8 e.ext, .int .u8 e.ver, .int .u16 e.flags, ov]
structure EdL (e : Ed) : Prop where
  size : e.size < 65536
  ext : e.ext < 256
  ver : e.ver < 256
  flags : e.flags < 65536
  opts : ∀ o ∈ e.opts, OptL o
structure Msg where
  hd : Hd
  qs : List Que
  ans : List Rec
  auth : List Rec
  extra : List Rec
  has : Bool
  ed : Ed
def msgV (m : Msg) (qv av uv xv ov : Value) : List Value := hdV m.hd ++ ([qv, av, uv, xv, .bool m.has] ++ edV m.ed ov)
/-- What a message's slices hold. -/
structure MsgR (w : World) (m : Msg) (qv av uv xv ov : Value) : Prop where
  qs : RSl w 3 qv m.qs.length (m.qs.flatMap quV)
  ans : RSl w 5 av m.ans.length (recsV m.ans)
  auth : RSl w 5 uv m.auth.length (recsV m.auth)
  extra : RSl w 5 xv m.extra.length (recsV m.extra)
  opts : RSl w 2 ov m.ed.opts.length (m.ed.opts.flatMap optV)
theorem MsgR.ext {w w' : World} {m : Msg} {qv av uv xv ov : Value} (h : MsgR w m qv av uv xv ov) (he : Ext w w') : MsgR w' m qv av uv xv ov := ⟨h.qs.ext he, h.ans.ext he, h.auth.ext he, h.extra.ext he, h.opts.ext he⟩
structure MsgL (m : Msg) : Prop where
  hd : HdL m.hd
  qs : ∀ q ∈ m.qs, QueL q
  ans : ∀ r ∈ m.ans, RecL r
  auth : ∀ r ∈ m.auth, RecL r
  extra : ∀ r ∈ m.extra, RecL r
  ed : EdL m.ed
end Go.Proofs.YtpoebplhemimmaaGreatDoor
namespace Go.Proofs.YtpoebplhemimmaaGreatDoor
variable {Ds : List Deferred}
open Go.RowKit
set_option linter.unusedVariables false
set_option linter.unusedSimpArgs false
set_option maxHeartbeats 1000000

theorem setsV_split : ∀ (l : List RSet) (dvs : List Value) (k : Nat), dvs.length = l.length → (setsV l dvs).take (k * 5) = setsV (l.take k) (dvs.take k) ∧ (setsV l dvs).drop (k * 5) = setsV (l.drop k) (dvs.drop k)
  | l, dvs, 0, _ => by simp [setsV]
  | [], [], k + 1, _ => by simp [setsV]
  | [], _ :: _, _, h => by simp at h
  | _ :: _, [], _, h => by simp at h
  | s :: l, d :: ds, k + 1, h => by
    obtain ⟨h1, h2⟩ := setsV_split l ds k (by simpa using h)
    rw [setsV_cons, show (k + 1) * 5 = (setV s d).length + k * 5 by simp [setV]; omega, List.take_length_add_append, List.drop_length_add_append, h1, h2]
    exact ⟨rfl, rfl⟩
theorem setsV_append : ∀ (l m : List RSet) (d e : List Value), d.length = l.length → setsV (l ++ m) (d ++ e) = setsV l d ++ setsV m e
  | [], m, [], e, _ => rfl
  | [], _, _ :: _, _, h => by simp at h
  | _ :: _, _, [], _, h => by simp at h
  | s :: l, m, x :: d, e, h => by
    have := setsV_append l m d e (by simpa using h)
    rw [List.cons_append, List.cons_append, setsV_cons, this, setsV_cons, List.append_assoc]
theorem setsV_insert {l : List RSet} {dvs : List Value} {k : Nat} (s : RSet) (d : Value) (h : dvs.length = l.length) : (setsV l dvs).take (k * 5) ++ setV s d ++ (setsV l dvs).drop (k * 5) = setsV (l.take k ++ s :: l.drop k) (dvs.take k ++ d :: dvs.drop k) := by
  obtain ⟨h1, h2⟩ := setsV_split l dvs k h
  rw [h1, h2, setsV_append _ _ _ _ (by simp [h]), setsV_cons, List.append_assoc]
theorem setsV_ttl : ∀ {l : List RSet} {dvs : List Value} {k : Nat} (hk : k < l.length) (h : dvs.length = l.length) (t : Nat), (setsV l dvs).set (k * 5 + 3) (.int .u32 t) = setsV (l.set k { l[k] with ttl := t }) dvs
  | [], _, _, hk, _, _ => by simp at hk
  | _ :: _, [], _, _, h, _ => by simp at h
  | s :: l, d :: ds, 0, _, _, t => by simp [setsV_cons, setV]
  | s :: l, d :: ds, k + 1, hk, h, t => by
    rw [setsV_cons, show (k + 1) * 5 + 3 = (k * 5 + 3) + 5 by omega]
    have e : (setV s d).length = 5 := rfl
    rw [List.set_append_right _ _ (by omega), e, Nat.add_sub_cancel, setsV_ttl (l := l) (dvs := ds) (by simpa using hk) (by simpa using h) t]
    simp [setsV_cons]
theorem setsV_data : ∀ {l : List RSet} {dvs : List Value} {k : Nat} (hk : k < l.length) (h : dvs.length = l.length) (x : List Bs) (v : Value), (setsV l dvs).set (k * 5 + 4) v = setsV (l.set k { l[k] with data := x }) (dvs.set k v)
  | [], _, _, hk, _, _, _ => by simp at hk
  | _ :: _, [], _, _, h, _, _ => by simp at h
  | s :: l, d :: ds, 0, _, _, x, v => by simp [setsV_cons, setV]
  | s :: l, d :: ds, k + 1, hk, h, x, v => by
    rw [setsV_cons, show (k + 1) * 5 + 4 = (k * 5 + 4) + 5 by omega]
    have e : (setV s d).length = 5 := rfl
    rw [List.set_append_right _ _ (by omega), e, Nat.add_sub_cancel, setsV_data (l := l) (dvs := ds) (by simpa using hk) (by simpa using h) x v]
    simp [setsV_cons]

theorem r_minn {P : Program} {o : Oper} {a : Act} {w : World} {N : Nat} {L : List (Nat × Value)} (hF : FrD Ds N L a) {x y : Operand} {ats : Array TypeId} {k : IntKind} {n m : Nat} (ho : o.op = .call { callee := .builtin .min, args := #[x, y], argTypes := ats }) (hx : ev L x = some (.int k (n : Int))) (hy : ev L y = some (.int k (m : Int))) : Does P o a w (.int k ((min n m : Nat) : Int)) w := by
  left
  rw [exec_builtin hF ho (ev2 hx hy)]
  have e : (if m < n then (m : Int) else (n : Int)) = ((min n m : Nat) : Int) := by split <;> omega
  simp [builtin, Builtin.min_, Builtin.min2]
  exact e

/-- A set, its data's slice, and the blocks of these. -/
abbrev Ent := RSet × Value × List (Nat × Obj)
def entV (es : List Ent) : List Value := (es.map fun e => setV e.1 e.2.1).flatten
def entB (es : List Ent) : List (Nat × Obj) := (es.map fun e => e.2.2).flatten
theorem entV_append (a b : List Ent) : entV (a ++ b) = entV a ++ entV b := by simp [entV]
theorem entV_cons (e : Ent) (b : List Ent) : entV (e :: b) = setV e.1 e.2.1 ++ entV b := rfl
theorem entB_append (a b : List Ent) : entB (a ++ b) = entB a ++ entB b := by simp [entB]
theorem entB_cons (e : Ent) (b : List Ent) : entB (e :: b) = e.2.2 ++ entB b := rfl
theorem entV_length : ∀ (es : List Ent), (entV es).length = es.length * 5
  | [] => rfl
  | e :: es => by rw [entV_cons, List.length_append, entV_length es, List.length_cons]; simp [setV]; omega
theorem entV_take (es : List Ent) (k : Nat) (hk : k ≤ es.length) : (entV es).take (k * 5) = entV (es.take k) ∧ (entV es).drop (k * 5) = entV (es.drop k) := by
  have h : entV es = entV (es.take k) ++ entV (es.drop k) := by rw [← entV_append, List.take_append_drop]
  have hl : (entV (es.take k)).length = k * 5 := by rw [entV_length, List.length_take, Nat.min_eq_left hk]
  rw [h]
  exact ⟨List.take_left' hl, List.drop_left' hl⟩
theorem entV_insert {es : List Ent} {k : Nat} (e : Ent) (hk : k ≤ es.length) : (entV es).take (k * 5) ++ setV e.1 e.2.1 ++ (entV es).drop (k * 5) = entV (es.take k ++ e :: es.drop k) := by
  obtain ⟨h1, h2⟩ := entV_take es k hk
  rw [h1, h2, entV_append, entV_cons, List.append_assoc]
theorem entV_get {es : List Ent} {k : Nat} (hk : k < es.length) (j : Nat) (u : Value) (hu : (setV es[k].1 es[k].2.1)[j]? = some u) : (entV es)[k * 5 + j]? = some u := by
  have h : entV es = entV (es.take k) ++ (setV es[k].1 es[k].2.1 ++ entV (es.drop (k + 1))) := by rw [← entV_cons, ← List.drop_eq_getElem_cons hk, ← entV_append, List.take_append_drop]
  have hl : (entV (es.take k)).length = k * 5 := by rw [entV_length, List.length_take, Nat.min_eq_left (by omega)]
  rw [h, List.getElem?_append_right (by omega), hl, Nat.add_sub_cancel_left, List.getElem?_append_left (List.getElem?_eq_some_iff.1 hu).1]
  exact hu

end Go.Proofs.YtpoebplhemimmaaGreatDoor
namespace Go.Proofs.YtpoebplhemimmaaGreatDoor
variable {Ds : List Deferred}
open Go.RowKit
set_option linter.unusedVariables false
set_option linter.unusedSimpArgs false
set_option maxHeartbeats 1000000

end Go.Proofs.YtpoebplhemimmaaGreatDoor
