/-
  Each function of the translation that has a body; the sizes of types.
-/
import Derived.Test.YtcelgjabccgnmaaDoorHeap
namespace Go.Proofs.YtcelgjabccgnmaaDoor
theorem fn2 : FnOk Tryd.prog 2 := ⟨_, Tryd.func2, by kernel_rfl, by kernel_rfl⟩
theorem fn3 : FnOk Tryd.prog 3 := ⟨_, Tryd.func3, by kernel_rfl, by kernel_rfl⟩
theorem fn4 : FnOk Tryd.prog 4 := ⟨_, Tryd.func4, by kernel_rfl, by kernel_rfl⟩
theorem fn5 : FnOk Tryd.prog 5 := ⟨_, Tryd.func5, by kernel_rfl, by kernel_rfl⟩
theorem fn6 : FnOk Tryd.prog 6 := ⟨_, Tryd.func6, by kernel_rfl, by kernel_rfl⟩
theorem fn7 : FnOk Tryd.prog 7 := ⟨_, Tryd.func7, by kernel_rfl, by kernel_rfl⟩
theorem fn8 : FnOk Tryd.prog 8 := ⟨_, Tryd.func8, by kernel_rfl, by kernel_rfl⟩
theorem fn9 : FnOk Tryd.prog 9 := ⟨_, Tryd.func9, by kernel_rfl, by kernel_rfl⟩
theorem fn10 : FnOk Tryd.prog 10 := ⟨_, Tryd.func10, by kernel_rfl, by kernel_rfl⟩
theorem fn11 : FnOk Tryd.prog 11 := ⟨_, Tryd.func11, by kernel_rfl, by kernel_rfl⟩
theorem fn12 : FnOk Tryd.prog 12 := ⟨_, Tryd.func12, by kernel_rfl, by kernel_rfl⟩
theorem fn13 : FnOk Tryd.prog 13 := ⟨_, Tryd.func13, by kernel_rfl, by kernel_rfl⟩
theorem fn14 : FnOk Tryd.prog 14 := ⟨_, Tryd.func14, by kernel_rfl, by kernel_rfl⟩
theorem fn15 : FnOk Tryd.prog 15 := ⟨_, Tryd.func15, by kernel_rfl, by kernel_rfl⟩
theorem fn16 : FnOk Tryd.prog 16 := ⟨_, Tryd.func16, by kernel_rfl, by kernel_rfl⟩
theorem fn17 : FnOk Tryd.prog 17 := ⟨_, Tryd.func17, by kernel_rfl, by kernel_rfl⟩
theorem fn18 : FnOk Tryd.prog 18 := ⟨_, Tryd.func18, by kernel_rfl, by kernel_rfl⟩
theorem fn19 : FnOk Tryd.prog 19 := ⟨_, Tryd.func19, by kernel_rfl, by kernel_rfl⟩
theorem fn20 : FnOk Tryd.prog 20 := ⟨_, Tryd.func20, by kernel_rfl, by kernel_rfl⟩
theorem fn21 : FnOk Tryd.prog 21 := ⟨_, Tryd.func21, by kernel_rfl, by kernel_rfl⟩
theorem fn22 : FnOk Tryd.prog 22 := ⟨_, Tryd.func22, by kernel_rfl, by kernel_rfl⟩
theorem fn23 : FnOk Tryd.prog 23 := ⟨_, Tryd.func23, by kernel_rfl, by kernel_rfl⟩
theorem fn24 : FnOk Tryd.prog 24 := ⟨_, Tryd.func24, by kernel_rfl, by kernel_rfl⟩
theorem fn25 : FnOk Tryd.prog 25 := ⟨_, Tryd.func25, by kernel_rfl, by kernel_rfl⟩
theorem fn26 : FnOk Tryd.prog 26 := ⟨_, Tryd.func26, by kernel_rfl, by kernel_rfl⟩
theorem fn27 : FnOk Tryd.prog 27 := ⟨_, Tryd.func27, by kernel_rfl, by kernel_rfl⟩
theorem fn28 : FnOk Tryd.prog 28 := ⟨_, Tryd.func28, by kernel_rfl, by kernel_rfl⟩
theorem fn29 : FnOk Tryd.prog 29 := ⟨_, Tryd.func29, by kernel_rfl, by kernel_rfl⟩
theorem fn30 : FnOk Tryd.prog 30 := ⟨_, Tryd.func30, by kernel_rfl, by kernel_rfl⟩
theorem fn31 : FnOk Tryd.prog 31 := ⟨_, Tryd.func31, by kernel_rfl, by kernel_rfl⟩
theorem fn32 : FnOk Tryd.prog 32 := ⟨_, Tryd.func32, by kernel_rfl, by kernel_rfl⟩
theorem fn33 : FnOk Tryd.prog 33 := ⟨_, Tryd.func33, by kernel_rfl, by kernel_rfl⟩
theorem fn34 : FnOk Tryd.prog 34 := ⟨_, Tryd.func34, by kernel_rfl, by kernel_rfl⟩
theorem fn35 : FnOk Tryd.prog 35 := ⟨_, Tryd.func35, by kernel_rfl, by kernel_rfl⟩
theorem fn36 : FnOk Tryd.prog 36 := ⟨_, Tryd.func36, by kernel_rfl, by kernel_rfl⟩
theorem fn37 : FnOk Tryd.prog 37 := ⟨_, Tryd.func37, by kernel_rfl, by kernel_rfl⟩
theorem fn38 : FnOk Tryd.prog 38 := ⟨_, Tryd.func38, by kernel_rfl, by kernel_rfl⟩
theorem fn39 : FnOk Tryd.prog 39 := ⟨_, Tryd.func39, by kernel_rfl, by kernel_rfl⟩
theorem fn40 : FnOk Tryd.prog 40 := ⟨_, Tryd.func40, by kernel_rfl, by kernel_rfl⟩
theorem fn41 : FnOk Tryd.prog 41 := ⟨_, Tryd.func41, by kernel_rfl, by kernel_rfl⟩
theorem fn42 : FnOk Tryd.prog 42 := ⟨_, Tryd.func42, by kernel_rfl, by kernel_rfl⟩
theorem fn43 : FnOk Tryd.prog 43 := ⟨_, Tryd.func43, by kernel_rfl, by kernel_rfl⟩
theorem fn44 : FnOk Tryd.prog 44 := ⟨_, Tryd.func44, by kernel_rfl, by kernel_rfl⟩
theorem fn45 : FnOk Tryd.prog 45 := ⟨_, Tryd.func45, by kernel_rfl, by kernel_rfl⟩
theorem fn46 : FnOk Tryd.prog 46 := ⟨_, Tryd.func46, by kernel_rfl, by kernel_rfl⟩
theorem fn47 : FnOk Tryd.prog 47 := ⟨_, Tryd.func47, by kernel_rfl, by kernel_rfl⟩
theorem fn48 : FnOk Tryd.prog 48 := ⟨_, Tryd.func48, by kernel_rfl, by kernel_rfl⟩
theorem fn49 : FnOk Tryd.prog 49 := ⟨_, Tryd.func49, by kernel_rfl, by kernel_rfl⟩
theorem fn50 : FnOk Tryd.prog 50 := ⟨_, Tryd.func50, by kernel_rfl, by kernel_rfl⟩
theorem fn51 : FnOk Tryd.prog 51 := ⟨_, Tryd.func51, by kernel_rfl, by kernel_rfl⟩
theorem fn52 : FnOk Tryd.prog 52 := ⟨_, Tryd.func52, by kernel_rfl, by kernel_rfl⟩
theorem fn53 : FnOk Tryd.prog 53 := ⟨_, Tryd.func53, by kernel_rfl, by kernel_rfl⟩
theorem fn54 : FnOk Tryd.prog 54 := ⟨_, Tryd.func54, by kernel_rfl, by kernel_rfl⟩
theorem fn55 : FnOk Tryd.prog 55 := ⟨_, Tryd.func55, by kernel_rfl, by kernel_rfl⟩
theorem fn56 : FnOk Tryd.prog 56 := ⟨_, Tryd.func56, by kernel_rfl, by kernel_rfl⟩
theorem fn57 : FnOk Tryd.prog 57 := ⟨_, Tryd.func57, by kernel_rfl, by kernel_rfl⟩
theorem fn58 : FnOk Tryd.prog 58 := ⟨_, Tryd.func58, by kernel_rfl, by kernel_rfl⟩
theorem fn59 : FnOk Tryd.prog 59 := ⟨_, Tryd.func59, by kernel_rfl, by kernel_rfl⟩
theorem fn60 : FnOk Tryd.prog 60 := ⟨_, Tryd.func60, by kernel_rfl, by kernel_rfl⟩
theorem fn61 : FnOk Tryd.prog 61 := ⟨_, Tryd.func61, by kernel_rfl, by kernel_rfl⟩
theorem fn62 : FnOk Tryd.prog 62 := ⟨_, Tryd.func62, by kernel_rfl, by kernel_rfl⟩
theorem fn63 : FnOk Tryd.prog 63 := ⟨_, Tryd.func63, by kernel_rfl, by kernel_rfl⟩
theorem fn64 : FnOk Tryd.prog 64 := ⟨_, Tryd.func64, by kernel_rfl, by kernel_rfl⟩
theorem fn65 : FnOk Tryd.prog 65 := ⟨_, Tryd.func65, by kernel_rfl, by kernel_rfl⟩
theorem fn66 : FnOk Tryd.prog 66 := ⟨_, Tryd.func66, by kernel_rfl, by kernel_rfl⟩
theorem fn67 : FnOk Tryd.prog 67 := ⟨_, Tryd.func67, by kernel_rfl, by kernel_rfl⟩
theorem fn68 : FnOk Tryd.prog 68 := ⟨_, Tryd.func68, by kernel_rfl, by kernel_rfl⟩
theorem fn69 : FnOk Tryd.prog 69 := ⟨_, Tryd.func69, by kernel_rfl, by kernel_rfl⟩
theorem fn70 : FnOk Tryd.prog 70 := ⟨_, Tryd.func70, by kernel_rfl, by kernel_rfl⟩
theorem fn71 : FnOk Tryd.prog 71 := ⟨_, Tryd.func71, by kernel_rfl, by kernel_rfl⟩
theorem fn72 : FnOk Tryd.prog 72 := ⟨_, Tryd.func72, by kernel_rfl, by kernel_rfl⟩
theorem fn73 : FnOk Tryd.prog 73 := ⟨_, Tryd.func73, by kernel_rfl, by kernel_rfl⟩
theorem fn74 : FnOk Tryd.prog 74 := ⟨_, Tryd.func74, by kernel_rfl, by kernel_rfl⟩
theorem fn76 : FnOk Tryd.prog 76 := ⟨_, Tryd.func76, by kernel_rfl, by kernel_rfl⟩
theorem fn77 : FnOk Tryd.prog 77 := ⟨_, Tryd.func77, by kernel_rfl, by kernel_rfl⟩
theorem fn78 : FnOk Tryd.prog 78 := ⟨_, Tryd.func78, by kernel_rfl, by kernel_rfl⟩
theorem fn80 : FnOk Tryd.prog 80 := ⟨_, Tryd.func80, by kernel_rfl, by kernel_rfl⟩
theorem fn81 : FnOk Tryd.prog 81 := ⟨_, Tryd.func81, by kernel_rfl, by kernel_rfl⟩
theorem fn82 : FnOk Tryd.prog 82 := ⟨_, Tryd.func82, by kernel_rfl, by kernel_rfl⟩
theorem fn83 : FnOk Tryd.prog 83 := ⟨_, Tryd.func83, by kernel_rfl, by kernel_rfl⟩
theorem fn84 : FnOk Tryd.prog 84 := ⟨_, Tryd.func84, by kernel_rfl, by kernel_rfl⟩
theorem fn85 : FnOk Tryd.prog 85 := ⟨_, Tryd.func85, by kernel_rfl, by kernel_rfl⟩
theorem fn86 : FnOk Tryd.prog 86 := ⟨_, Tryd.func86, by kernel_rfl, by kernel_rfl⟩
theorem fn87 : FnOk Tryd.prog 87 := ⟨_, Tryd.func87, by kernel_rfl, by kernel_rfl⟩
theorem fn88 : FnOk Tryd.prog 88 := ⟨_, Tryd.func88, by kernel_rfl, by kernel_rfl⟩
theorem fn89 : FnOk Tryd.prog 89 := ⟨_, Tryd.func89, by kernel_rfl, by kernel_rfl⟩
theorem fn90 : FnOk Tryd.prog 90 := ⟨_, Tryd.func90, by kernel_rfl, by kernel_rfl⟩
theorem fn91 : FnOk Tryd.prog 91 := ⟨_, Tryd.func91, by kernel_rfl, by kernel_rfl⟩
theorem fn92 : FnOk Tryd.prog 92 := ⟨_, Tryd.func92, by kernel_rfl, by kernel_rfl⟩
theorem fn93 : FnOk Tryd.prog 93 := ⟨_, Tryd.func93, by kernel_rfl, by kernel_rfl⟩
theorem fn94 : FnOk Tryd.prog 94 := ⟨_, Tryd.func94, by kernel_rfl, by kernel_rfl⟩
theorem fn95 : FnOk Tryd.prog 95 := ⟨_, Tryd.func95, by kernel_rfl, by kernel_rfl⟩
theorem fn96 : FnOk Tryd.prog 96 := ⟨_, Tryd.func96, by kernel_rfl, by kernel_rfl⟩
theorem fn97 : FnOk Tryd.prog 97 := ⟨_, Tryd.func97, by kernel_rfl, by kernel_rfl⟩
theorem fn98 : FnOk Tryd.prog 98 := ⟨_, Tryd.func98, by kernel_rfl, by kernel_rfl⟩
theorem fn99 : FnOk Tryd.prog 99 := ⟨_, Tryd.func99, by kernel_rfl, by kernel_rfl⟩
theorem fn100 : FnOk Tryd.prog 100 := ⟨_, Tryd.func100, by kernel_rfl, by kernel_rfl⟩
theorem fn101 : FnOk Tryd.prog 101 := ⟨_, Tryd.func101, by kernel_rfl, by kernel_rfl⟩
theorem fn102 : FnOk Tryd.prog 102 := ⟨_, Tryd.func102, by kernel_rfl, by kernel_rfl⟩
theorem fn103 : FnOk Tryd.prog 103 := ⟨_, Tryd.func103, by kernel_rfl, by kernel_rfl⟩
theorem fn104 : FnOk Tryd.prog 104 := ⟨_, Tryd.func104, by kernel_rfl, by kernel_rfl⟩
theorem fn105 : FnOk Tryd.prog 105 := ⟨_, Tryd.func105, by kernel_rfl, by kernel_rfl⟩
theorem fn106 : FnOk Tryd.prog 106 := ⟨_, Tryd.func106, by kernel_rfl, by kernel_rfl⟩
theorem fn107 : FnOk Tryd.prog 107 := ⟨_, Tryd.func107, by kernel_rfl, by kernel_rfl⟩
theorem fn109 : FnOk Tryd.prog 109 := ⟨_, Tryd.func109, by kernel_rfl, by kernel_rfl⟩
theorem fn110 : FnOk Tryd.prog 110 := ⟨_, Tryd.func110, by kernel_rfl, by kernel_rfl⟩
theorem fn111 : FnOk Tryd.prog 111 := ⟨_, Tryd.func111, by kernel_rfl, by kernel_rfl⟩
theorem fn112 : FnOk Tryd.prog 112 := ⟨_, Tryd.func112, by kernel_rfl, by kernel_rfl⟩
theorem fn113 : FnOk Tryd.prog 113 := ⟨_, Tryd.func113, by kernel_rfl, by kernel_rfl⟩
theorem fn114 : FnOk Tryd.prog 114 := ⟨_, Tryd.func114, by kernel_rfl, by kernel_rfl⟩
theorem fn115 : FnOk Tryd.prog 115 := ⟨_, Tryd.func115, by kernel_rfl, by kernel_rfl⟩
theorem fn116 : FnOk Tryd.prog 116 := ⟨_, Tryd.func116, by kernel_rfl, by kernel_rfl⟩
theorem fn117 : FnOk Tryd.prog 117 := ⟨_, Tryd.func117, by kernel_rfl, by kernel_rfl⟩
theorem fn118 : FnOk Tryd.prog 118 := ⟨_, Tryd.func118, by kernel_rfl, by kernel_rfl⟩
theorem fn119 : FnOk Tryd.prog 119 := ⟨_, Tryd.func119, by kernel_rfl, by kernel_rfl⟩
theorem fn120 : FnOk Tryd.prog 120 := ⟨_, Tryd.func120, by kernel_rfl, by kernel_rfl⟩
theorem fn124 : FnOk Tryd.prog 124 := ⟨_, Tryd.func124, by kernel_rfl, by kernel_rfl⟩
theorem fn165 : FnOk Tryd.prog 165 := ⟨_, Tryd.func165, by kernel_rfl, by kernel_rfl⟩
theorem ti3 : TI Tryd.prog 3 1 8 := ti_of (by kernel_rfl)
theorem ti4 : TI Tryd.prog 4 1 1 := ti_of (by kernel_rfl)
theorem ti5 : TI Tryd.prog 5 1 1 := ti_of (by kernel_rfl)
theorem ti9 : TI Tryd.prog 9 1 16 := ti_of (by kernel_rfl)
theorem ti24 : TI Tryd.prog 24 1 2 := ti_of (by kernel_rfl)
theorem ti25 : TI Tryd.prog 25 1 4 := ti_of (by kernel_rfl)
theorem ti27 : TI Tryd.prog 27 5 40 := ti_of (by kernel_rfl)
theorem ti29 : TI Tryd.prog 29 1 8 := ti_of (by kernel_rfl)
theorem ti33 : TI Tryd.prog 33 3 24 := ti_of (by kernel_rfl)
theorem ti47 : TI Tryd.prog 47 1 24 := ti_of (by kernel_rfl)
theorem ti49 : TI Tryd.prog 49 5 48 := ti_of (by kernel_rfl)
theorem ti62 : TI Tryd.prog 62 1 24 := ti_of (by kernel_rfl)
theorem ti81 : TI Tryd.prog 81 1 24 := ti_of (by kernel_rfl)
theorem ti85 : TI Tryd.prog 85 2 24 := ti_of (by kernel_rfl)
theorem ti96 : TI Tryd.prog 96 2 24 := ti_of (by kernel_rfl)
theorem ti102 : TI Tryd.prog 102 1 8 := ti_of (by kernel_rfl)
theorem ti104 : TI Tryd.prog 104 2 32 := ti_of (by kernel_rfl)
theorem ti106 : TI Tryd.prog 106 1 16 := ti_of (by kernel_rfl)
theorem ti112 : TI Tryd.prog 112 1 8 := ti_of (by kernel_rfl)
theorem ti113 : TI Tryd.prog 113 3 24 := ti_of (by kernel_rfl)
theorem ti117 : TI Tryd.prog 117 1 8 := ti_of (by kernel_rfl)
theorem ti120 : TI Tryd.prog 120 4 56 := ti_of (by kernel_rfl)
theorem ti136 : TI Tryd.prog 136 2 24 := ti_of (by kernel_rfl)
theorem ti154 : TI Tryd.prog 154 1 8 := ti_of (by kernel_rfl)
theorem ti159 : TI Tryd.prog 159 3 24 := ti_of (by kernel_rfl)
theorem ti162 : TI Tryd.prog 162 1 16 := ti_of (by kernel_rfl)
theorem ti205 : TI Tryd.prog 205 4 16 := ti_of (by kernel_rfl)
theorem fd27_0 : FD Tryd.prog 27 0 0 := fd_of (by kernel_rfl)
theorem fd27_1 : FD Tryd.prog 27 1 1 := fd_of (by kernel_rfl)
theorem fd27_2 : FD Tryd.prog 27 2 2 := fd_of (by kernel_rfl)
theorem fd27_3 : FD Tryd.prog 27 3 3 := fd_of (by kernel_rfl)
theorem fd27_4 : FD Tryd.prog 27 4 4 := fd_of (by kernel_rfl)
theorem fd33_0 : FD Tryd.prog 33 0 0 := fd_of (by kernel_rfl)
theorem fd33_1 : FD Tryd.prog 33 1 1 := fd_of (by kernel_rfl)
theorem fd33_2 : FD Tryd.prog 33 2 2 := fd_of (by kernel_rfl)
theorem fd49_0 : FD Tryd.prog 49 0 0 := fd_of (by kernel_rfl)
theorem fd49_1 : FD Tryd.prog 49 1 1 := fd_of (by kernel_rfl)
theorem fd49_2 : FD Tryd.prog 49 2 2 := fd_of (by kernel_rfl)
theorem fd49_3 : FD Tryd.prog 49 3 3 := fd_of (by kernel_rfl)
theorem fd49_4 : FD Tryd.prog 49 4 4 := fd_of (by kernel_rfl)
theorem fd85_0 : FD Tryd.prog 85 0 0 := fd_of (by kernel_rfl)
theorem fd85_1 : FD Tryd.prog 85 1 1 := fd_of (by kernel_rfl)
theorem fd96_0 : FD Tryd.prog 96 0 0 := fd_of (by kernel_rfl)
theorem fd96_1 : FD Tryd.prog 96 1 1 := fd_of (by kernel_rfl)
theorem fd104_0 : FD Tryd.prog 104 0 0 := fd_of (by kernel_rfl)
theorem fd104_1 : FD Tryd.prog 104 1 1 := fd_of (by kernel_rfl)
theorem fd120_0 : FD Tryd.prog 120 0 0 := fd_of (by kernel_rfl)
theorem fd120_1 : FD Tryd.prog 120 1 1 := fd_of (by kernel_rfl)
theorem fd120_2 : FD Tryd.prog 120 2 2 := fd_of (by kernel_rfl)
theorem fd120_3 : FD Tryd.prog 120 3 3 := fd_of (by kernel_rfl)
theorem fd136_0 : FD Tryd.prog 136 0 0 := fd_of (by kernel_rfl)
theorem fd136_1 : FD Tryd.prog 136 1 1 := fd_of (by kernel_rfl)
theorem fd154_0 : FD Tryd.prog 154 0 0 := fd_of (by kernel_rfl)
theorem zv3 : ZV Tryd.prog 3 (Value.int IntKind.i64 0) := zv_of (by kernel_rfl)
theorem zv5 : ZV Tryd.prog 5 (Value.int IntKind.u8 0) := zv_of (by kernel_rfl)
theorem zv9 : ZV Tryd.prog 9 (Value.string (mk [])) := zv_of (by kernel_rfl)
theorem zv27 : ZV Tryd.prog 27 (.agg #[Value.string (mk []), Value.int IntKind.u16 0, Value.int IntKind.u16 0, Value.int IntKind.u32 0, Value.string (mk [])]) := zv_of (by kernel_rfl)
theorem zv33 : ZV Tryd.prog 33 (.agg #[Value.string (mk []), Value.int IntKind.u16 0, Value.int IntKind.u16 0]) := zv_of (by kernel_rfl)
theorem zv49 : ZV Tryd.prog 49 (.agg #[Value.string (mk []), Value.int IntKind.u16 0, Value.int IntKind.u16 0, Value.int IntKind.u32 0, Value.slice none 0 0]) := zv_of (by kernel_rfl)
theorem zv85 : ZV Tryd.prog 85 (.agg #[Value.string (mk []), Value.bool false]) := zv_of (by kernel_rfl)
theorem zv96 : ZV Tryd.prog 96 (.agg #[Value.string (mk []), Value.bool false]) := zv_of (by kernel_rfl)
theorem zv104 : ZV Tryd.prog 104 (.agg #[Value.pointer none, Value.slice none 0 0]) := zv_of (by kernel_rfl)
theorem zv106 : ZV Tryd.prog 106 (Value.nilIface) := zv_of (by kernel_rfl)
theorem zv113 : ZV Tryd.prog 113 (.agg #[Value.nilFunc, Value.nilFunc, Value.nilFunc]) := zv_of (by kernel_rfl)
theorem zv120 : ZV Tryd.prog 120 (.agg #[Value.pointer none, Value.string (mk []), Value.bool false, Value.slice none 0 0]) := zv_of (by kernel_rfl)
theorem zv136 : ZV Tryd.prog 136 (.agg #[Value.string (mk []), Value.int IntKind.i64 0]) := zv_of (by kernel_rfl)
theorem zv154 : ZV Tryd.prog 154 (.agg #[Value.int IntKind.i64 0]) := zv_of (by kernel_rfl)
theorem zv159 : ZV Tryd.prog 159 (.agg #[Value.pointer none, Value.pointer none, Value.int IntKind.u64 0]) := zv_of (by kernel_rfl)
theorem zv205 : ZV Tryd.prog 205 (.agg #[Value.int IntKind.i32 0, Value.int IntKind.i32 0, Value.int IntKind.i32 0, Value.int IntKind.i32 0]) := zv_of (by kernel_rfl)
theorem bd27_0_1 (w : World) (u0 : Value) (u1 : Value) (h0 : u0.oneCell' = true) (h1 : u1.oneCell' = true) : (Instr.build 27 #[(0, u0), (1, u1)]).run Tryd.prog w = .ok (.agg #[u0, u1, Value.int IntKind.u16 0, Value.int IntKind.u32 0, Value.string (mk [])]) w := by
  obtain ⟨i, hi, hz⟩ := zv27
  unfold Instr.build
  simp [zeroValue, typeInfo, hi, hz, run_underlying Tryd.underlying27, Instr.fill, cells_agg, SZ1_of (P := Tryd.prog) ti24, SZ1_of (P := Tryd.prog) ti25, SZ1_of (P := Tryd.prog) ti9, cells_one h0, cells_one h1]
theorem bd27_0_1_2 (w : World) (u0 : Value) (u1 : Value) (u2 : Value) (h0 : u0.oneCell' = true) (h1 : u1.oneCell' = true) (h2 : u2.oneCell' = true) : (Instr.build 27 #[(0, u0), (1, u1), (2, u2)]).run Tryd.prog w = .ok (.agg #[u0, u1, u2, Value.int IntKind.u32 0, Value.string (mk [])]) w := by
  obtain ⟨i, hi, hz⟩ := zv27
  unfold Instr.build
  simp [zeroValue, typeInfo, hi, hz, run_underlying Tryd.underlying27, Instr.fill, cells_agg, SZ1_of (P := Tryd.prog) ti24, SZ1_of (P := Tryd.prog) ti25, SZ1_of (P := Tryd.prog) ti9, cells_one h0, cells_one h1, cells_one h2]
theorem bd27_0_1_2_3_4 (w : World) (u0 : Value) (u1 : Value) (u2 : Value) (u3 : Value) (u4 : Value) (h0 : u0.oneCell' = true) (h1 : u1.oneCell' = true) (h2 : u2.oneCell' = true) (h3 : u3.oneCell' = true) (h4 : u4.oneCell' = true) : (Instr.build 27 #[(0, u0), (1, u1), (2, u2), (3, u3), (4, u4)]).run Tryd.prog w = .ok (.agg #[u0, u1, u2, u3, u4]) w := by
  obtain ⟨i, hi, hz⟩ := zv27
  unfold Instr.build
  simp [zeroValue, typeInfo, hi, hz, run_underlying Tryd.underlying27, Instr.fill, cells_agg, SZ1_of (P := Tryd.prog) ti24, SZ1_of (P := Tryd.prog) ti25, SZ1_of (P := Tryd.prog) ti9, cells_one h0, cells_one h1, cells_one h2, cells_one h3, cells_one h4]
theorem bd27_0_1_2_4 (w : World) (u0 : Value) (u1 : Value) (u2 : Value) (u4 : Value) (h0 : u0.oneCell' = true) (h1 : u1.oneCell' = true) (h2 : u2.oneCell' = true) (h4 : u4.oneCell' = true) : (Instr.build 27 #[(0, u0), (1, u1), (2, u2), (4, u4)]).run Tryd.prog w = .ok (.agg #[u0, u1, u2, Value.int IntKind.u32 0, u4]) w := by
  obtain ⟨i, hi, hz⟩ := zv27
  unfold Instr.build
  simp [zeroValue, typeInfo, hi, hz, run_underlying Tryd.underlying27, Instr.fill, cells_agg, SZ1_of (P := Tryd.prog) ti24, SZ1_of (P := Tryd.prog) ti25, SZ1_of (P := Tryd.prog) ti9, cells_one h0, cells_one h1, cells_one h2, cells_one h4]
theorem bd27_0_1_4 (w : World) (u0 : Value) (u1 : Value) (u4 : Value) (h0 : u0.oneCell' = true) (h1 : u1.oneCell' = true) (h4 : u4.oneCell' = true) : (Instr.build 27 #[(0, u0), (1, u1), (4, u4)]).run Tryd.prog w = .ok (.agg #[u0, u1, Value.int IntKind.u16 0, Value.int IntKind.u32 0, u4]) w := by
  obtain ⟨i, hi, hz⟩ := zv27
  unfold Instr.build
  simp [zeroValue, typeInfo, hi, hz, run_underlying Tryd.underlying27, Instr.fill, cells_agg, SZ1_of (P := Tryd.prog) ti24, SZ1_of (P := Tryd.prog) ti25, SZ1_of (P := Tryd.prog) ti9, cells_one h0, cells_one h1, cells_one h4]
theorem bd33_0_1_2 (w : World) (u0 : Value) (u1 : Value) (u2 : Value) (h0 : u0.oneCell' = true) (h1 : u1.oneCell' = true) (h2 : u2.oneCell' = true) : (Instr.build 33 #[(0, u0), (1, u1), (2, u2)]).run Tryd.prog w = .ok (.agg #[u0, u1, u2]) w := by
  obtain ⟨i, hi, hz⟩ := zv33
  unfold Instr.build
  simp [zeroValue, typeInfo, hi, hz, run_underlying Tryd.underlying33, Instr.fill, cells_agg, SZ1_of (P := Tryd.prog) ti24, SZ1_of (P := Tryd.prog) ti9, cells_one h0, cells_one h1, cells_one h2]
theorem bd33_1_2 (w : World) (u1 : Value) (u2 : Value) (h1 : u1.oneCell' = true) (h2 : u2.oneCell' = true) : (Instr.build 33 #[(1, u1), (2, u2)]).run Tryd.prog w = .ok (.agg #[Value.string (mk []), u1, u2]) w := by
  obtain ⟨i, hi, hz⟩ := zv33
  unfold Instr.build
  simp [zeroValue, typeInfo, hi, hz, run_underlying Tryd.underlying33, Instr.fill, cells_agg, SZ1_of (P := Tryd.prog) ti24, SZ1_of (P := Tryd.prog) ti9, cells_one h1, cells_one h2]
theorem bd49 (w : World) : (Instr.build 49 #[]).run Tryd.prog w = .ok (.agg #[Value.string (mk []), Value.int IntKind.u16 0, Value.int IntKind.u16 0, Value.int IntKind.u32 0, Value.slice none 0 0]) w := by
  obtain ⟨i, hi, hz⟩ := zv49
  unfold Instr.build
  simp [zeroValue, typeInfo, hi, hz, run_underlying Tryd.underlying49, Instr.fill, cells_agg, SZ1_of (P := Tryd.prog) ti24, SZ1_of (P := Tryd.prog) ti25, SZ1_of (P := Tryd.prog) ti47, SZ1_of (P := Tryd.prog) ti9]
theorem bd49_0 (w : World) (u0 : Value) (h0 : u0.oneCell' = true) : (Instr.build 49 #[(0, u0)]).run Tryd.prog w = .ok (.agg #[u0, Value.int IntKind.u16 0, Value.int IntKind.u16 0, Value.int IntKind.u32 0, Value.slice none 0 0]) w := by
  obtain ⟨i, hi, hz⟩ := zv49
  unfold Instr.build
  simp [zeroValue, typeInfo, hi, hz, run_underlying Tryd.underlying49, Instr.fill, cells_agg, SZ1_of (P := Tryd.prog) ti24, SZ1_of (P := Tryd.prog) ti25, SZ1_of (P := Tryd.prog) ti47, SZ1_of (P := Tryd.prog) ti9, cells_one h0]
theorem bd49_0_1_2_3 (w : World) (u0 : Value) (u1 : Value) (u2 : Value) (u3 : Value) (h0 : u0.oneCell' = true) (h1 : u1.oneCell' = true) (h2 : u2.oneCell' = true) (h3 : u3.oneCell' = true) : (Instr.build 49 #[(0, u0), (1, u1), (2, u2), (3, u3)]).run Tryd.prog w = .ok (.agg #[u0, u1, u2, u3, Value.slice none 0 0]) w := by
  obtain ⟨i, hi, hz⟩ := zv49
  unfold Instr.build
  simp [zeroValue, typeInfo, hi, hz, run_underlying Tryd.underlying49, Instr.fill, cells_agg, SZ1_of (P := Tryd.prog) ti24, SZ1_of (P := Tryd.prog) ti25, SZ1_of (P := Tryd.prog) ti47, SZ1_of (P := Tryd.prog) ti9, cells_one h0, cells_one h1, cells_one h2, cells_one h3]
theorem bd49_0_1_2_3_4 (w : World) (u0 : Value) (u1 : Value) (u2 : Value) (u3 : Value) (u4 : Value) (h0 : u0.oneCell' = true) (h1 : u1.oneCell' = true) (h2 : u2.oneCell' = true) (h3 : u3.oneCell' = true) (h4 : u4.oneCell' = true) : (Instr.build 49 #[(0, u0), (1, u1), (2, u2), (3, u3), (4, u4)]).run Tryd.prog w = .ok (.agg #[u0, u1, u2, u3, u4]) w := by
  obtain ⟨i, hi, hz⟩ := zv49
  unfold Instr.build
  simp [zeroValue, typeInfo, hi, hz, run_underlying Tryd.underlying49, Instr.fill, cells_agg, SZ1_of (P := Tryd.prog) ti24, SZ1_of (P := Tryd.prog) ti25, SZ1_of (P := Tryd.prog) ti47, SZ1_of (P := Tryd.prog) ti9, cells_one h0, cells_one h1, cells_one h2, cells_one h3, cells_one h4]
theorem bd49_4 (w : World) (u4 : Value) (h4 : u4.oneCell' = true) : (Instr.build 49 #[(4, u4)]).run Tryd.prog w = .ok (.agg #[Value.string (mk []), Value.int IntKind.u16 0, Value.int IntKind.u16 0, Value.int IntKind.u32 0, u4]) w := by
  obtain ⟨i, hi, hz⟩ := zv49
  unfold Instr.build
  simp [zeroValue, typeInfo, hi, hz, run_underlying Tryd.underlying49, Instr.fill, cells_agg, SZ1_of (P := Tryd.prog) ti24, SZ1_of (P := Tryd.prog) ti25, SZ1_of (P := Tryd.prog) ti47, SZ1_of (P := Tryd.prog) ti9, cells_one h4]
theorem bd85_0 (w : World) (u0 : Value) (h0 : u0.oneCell' = true) : (Instr.build 85 #[(0, u0)]).run Tryd.prog w = .ok (.agg #[u0, Value.bool false]) w := by
  obtain ⟨i, hi, hz⟩ := zv85
  unfold Instr.build
  simp [zeroValue, typeInfo, hi, hz, run_underlying Tryd.underlying85, Instr.fill, cells_agg, SZ1_of (P := Tryd.prog) ti4, SZ1_of (P := Tryd.prog) ti9, cells_one h0]
theorem bd85_0_1 (w : World) (u0 : Value) (u1 : Value) (h0 : u0.oneCell' = true) (h1 : u1.oneCell' = true) : (Instr.build 85 #[(0, u0), (1, u1)]).run Tryd.prog w = .ok (.agg #[u0, u1]) w := by
  obtain ⟨i, hi, hz⟩ := zv85
  unfold Instr.build
  simp [zeroValue, typeInfo, hi, hz, run_underlying Tryd.underlying85, Instr.fill, cells_agg, SZ1_of (P := Tryd.prog) ti4, SZ1_of (P := Tryd.prog) ti9, cells_one h0, cells_one h1]
theorem bd96_0 (w : World) (u0 : Value) (h0 : u0.oneCell' = true) : (Instr.build 96 #[(0, u0)]).run Tryd.prog w = .ok (.agg #[u0, Value.bool false]) w := by
  obtain ⟨i, hi, hz⟩ := zv96
  unfold Instr.build
  simp [zeroValue, typeInfo, hi, hz, run_underlying Tryd.underlying96, Instr.fill, cells_agg, SZ1_of (P := Tryd.prog) ti4, SZ1_of (P := Tryd.prog) ti9, cells_one h0]
theorem bd96_0_1 (w : World) (u0 : Value) (u1 : Value) (h0 : u0.oneCell' = true) (h1 : u1.oneCell' = true) : (Instr.build 96 #[(0, u0), (1, u1)]).run Tryd.prog w = .ok (.agg #[u0, u1]) w := by
  obtain ⟨i, hi, hz⟩ := zv96
  unfold Instr.build
  simp [zeroValue, typeInfo, hi, hz, run_underlying Tryd.underlying96, Instr.fill, cells_agg, SZ1_of (P := Tryd.prog) ti4, SZ1_of (P := Tryd.prog) ti9, cells_one h0, cells_one h1]
theorem bd113_0 (w : World) (u0 : Value) (h0 : u0.oneCell' = true) : (Instr.build 113 #[(0, u0)]).run Tryd.prog w = .ok (.agg #[u0, Value.nilFunc, Value.nilFunc]) w := by
  obtain ⟨i, hi, hz⟩ := zv113
  unfold Instr.build
  simp [zeroValue, typeInfo, hi, hz, run_underlying Tryd.underlying113, Instr.fill, cells_agg, SZ1_of (P := Tryd.prog) ti112, cells_one h0]
theorem bd113_0_1 (w : World) (u0 : Value) (u1 : Value) (h0 : u0.oneCell' = true) (h1 : u1.oneCell' = true) : (Instr.build 113 #[(0, u0), (1, u1)]).run Tryd.prog w = .ok (.agg #[u0, u1, Value.nilFunc]) w := by
  obtain ⟨i, hi, hz⟩ := zv113
  unfold Instr.build
  simp [zeroValue, typeInfo, hi, hz, run_underlying Tryd.underlying113, Instr.fill, cells_agg, SZ1_of (P := Tryd.prog) ti112, cells_one h0, cells_one h1]
theorem bd113_0_1_2 (w : World) (u0 : Value) (u1 : Value) (u2 : Value) (h0 : u0.oneCell' = true) (h1 : u1.oneCell' = true) (h2 : u2.oneCell' = true) : (Instr.build 113 #[(0, u0), (1, u1), (2, u2)]).run Tryd.prog w = .ok (.agg #[u0, u1, u2]) w := by
  obtain ⟨i, hi, hz⟩ := zv113
  unfold Instr.build
  simp [zeroValue, typeInfo, hi, hz, run_underlying Tryd.underlying113, Instr.fill, cells_agg, SZ1_of (P := Tryd.prog) ti112, cells_one h0, cells_one h1, cells_one h2]
theorem bd120_0_1_2 (w : World) (u0 : Value) (u1 : Value) (u2 : Value) (h0 : u0.oneCell' = true) (h1 : u1.oneCell' = true) (h2 : u2.oneCell' = true) : (Instr.build 120 #[(0, u0), (1, u1), (2, u2)]).run Tryd.prog w = .ok (.agg #[u0, u1, u2, Value.slice none 0 0]) w := by
  obtain ⟨i, hi, hz⟩ := zv120
  unfold Instr.build
  simp [zeroValue, typeInfo, hi, hz, run_underlying Tryd.underlying120, Instr.fill, cells_agg, SZ1_of (P := Tryd.prog) ti117, SZ1_of (P := Tryd.prog) ti4, SZ1_of (P := Tryd.prog) ti81, SZ1_of (P := Tryd.prog) ti9, cells_one h0, cells_one h1, cells_one h2]
theorem bd136_0 (w : World) (u0 : Value) (h0 : u0.oneCell' = true) : (Instr.build 136 #[(0, u0)]).run Tryd.prog w = .ok (.agg #[u0, Value.int IntKind.i64 0]) w := by
  obtain ⟨i, hi, hz⟩ := zv136
  unfold Instr.build
  simp [zeroValue, typeInfo, hi, hz, run_underlying Tryd.underlying136, Instr.fill, cells_agg, SZ1_of (P := Tryd.prog) ti3, SZ1_of (P := Tryd.prog) ti9, cells_one h0]
theorem bd154 (w : World) : (Instr.build 154 #[]).run Tryd.prog w = .ok (.agg #[Value.int IntKind.i64 0]) w := by
  obtain ⟨i, hi, hz⟩ := zv154
  unfold Instr.build
  simp [zeroValue, typeInfo, hi, hz, run_underlying Tryd.underlying154, Instr.fill, cells_agg, SZ1_of (P := Tryd.prog) ti29]
theorem bd154_0 (w : World) (u0 : Value) (h0 : u0.oneCell' = true) : (Instr.build 154 #[(0, u0)]).run Tryd.prog w = .ok (.agg #[u0]) w := by
  obtain ⟨i, hi, hz⟩ := zv154
  unfold Instr.build
  simp [zeroValue, typeInfo, hi, hz, run_underlying Tryd.underlying154, Instr.fill, cells_agg, SZ1_of (P := Tryd.prog) ti29, cells_one h0]
theorem fl3 : flat Tryd.prog 3 = true := by unfold flat; rw [Tryd.underlying3]
theorem fl4 : flat Tryd.prog 4 = true := by unfold flat; rw [Tryd.underlying4]
theorem fl5 : flat Tryd.prog 5 = true := by unfold flat; rw [Tryd.underlying5]
theorem fl9 : flat Tryd.prog 9 = true := by unfold flat; rw [Tryd.underlying9]
theorem fl24 : flat Tryd.prog 24 = true := by unfold flat; rw [Tryd.underlying24]
theorem fl25 : flat Tryd.prog 25 = true := by unfold flat; rw [Tryd.underlying25]
theorem fl29 : flat Tryd.prog 29 = true := by unfold flat; rw [Tryd.underlying29]
theorem fl47 : flat Tryd.prog 47 = true := by unfold flat; rw [Tryd.underlying47]
theorem fl62 : flat Tryd.prog 62 = true := by unfold flat; rw [Tryd.underlying62]
theorem fl81 : flat Tryd.prog 81 = true := by unfold flat; rw [Tryd.underlying81]
theorem fl102 : flat Tryd.prog 102 = true := by unfold flat; rw [Tryd.underlying102]
theorem fl106 : flat Tryd.prog 106 = true := by unfold flat; rw [Tryd.underlying106]
theorem fl117 : flat Tryd.prog 117 = true := by unfold flat; rw [Tryd.underlying117]
theorem fl162 : flat Tryd.prog 162 = true := by unfold flat; rw [Tryd.underlying162]
end Go.Proofs.YtcelgjabccgnmaaDoor
