/-
  Each function of the translation that has a body; the sizes of types.
-/
import Derived.Test.YtpoebplhemimmaaGreatDoorHeap
namespace Go.Proofs.YtpoebplhemimmaaGreatDoor
theorem SZn_of {P : Program} {e size bytes : Nat} (h : TI P e size bytes) (w : World) : (sizeOf e).run P w = .ok size w := by
  obtain ⟨i, z, hi, _, h1, _⟩ := h
  simp [sizeOf, typeInfo, hi, h1]
theorem fn2 : FnOk Tryz.prog 2 := ⟨_, Tryz.func2, by kernel_rfl, by kernel_rfl⟩
theorem fn3 : FnOk Tryz.prog 3 := ⟨_, Tryz.func3, by kernel_rfl, by kernel_rfl⟩
theorem fn4 : FnOk Tryz.prog 4 := ⟨_, Tryz.func4, by kernel_rfl, by kernel_rfl⟩
theorem fn5 : FnOk Tryz.prog 5 := ⟨_, Tryz.func5, by kernel_rfl, by kernel_rfl⟩
theorem fn6 : FnOk Tryz.prog 6 := ⟨_, Tryz.func6, by kernel_rfl, by kernel_rfl⟩
theorem fn7 : FnOk Tryz.prog 7 := ⟨_, Tryz.func7, by kernel_rfl, by kernel_rfl⟩
theorem fn8 : FnOk Tryz.prog 8 := ⟨_, Tryz.func8, by kernel_rfl, by kernel_rfl⟩
theorem fn9 : FnOk Tryz.prog 9 := ⟨_, Tryz.func9, by kernel_rfl, by kernel_rfl⟩
theorem fn10 : FnOk Tryz.prog 10 := ⟨_, Tryz.func10, by kernel_rfl, by kernel_rfl⟩
theorem fn11 : FnOk Tryz.prog 11 := ⟨_, Tryz.func11, by kernel_rfl, by kernel_rfl⟩
theorem fn12 : FnOk Tryz.prog 12 := ⟨_, Tryz.func12, by kernel_rfl, by kernel_rfl⟩
theorem fn13 : FnOk Tryz.prog 13 := ⟨_, Tryz.func13, by kernel_rfl, by kernel_rfl⟩
theorem fn14 : FnOk Tryz.prog 14 := ⟨_, Tryz.func14, by kernel_rfl, by kernel_rfl⟩
theorem fn15 : FnOk Tryz.prog 15 := ⟨_, Tryz.func15, by kernel_rfl, by kernel_rfl⟩
theorem fn16 : FnOk Tryz.prog 16 := ⟨_, Tryz.func16, by kernel_rfl, by kernel_rfl⟩
theorem fn17 : FnOk Tryz.prog 17 := ⟨_, Tryz.func17, by kernel_rfl, by kernel_rfl⟩
theorem fn18 : FnOk Tryz.prog 18 := ⟨_, Tryz.func18, by kernel_rfl, by kernel_rfl⟩
theorem fn19 : FnOk Tryz.prog 19 := ⟨_, Tryz.func19, by kernel_rfl, by kernel_rfl⟩
theorem fn20 : FnOk Tryz.prog 20 := ⟨_, Tryz.func20, by kernel_rfl, by kernel_rfl⟩
theorem fn21 : FnOk Tryz.prog 21 := ⟨_, Tryz.func21, by kernel_rfl, by kernel_rfl⟩
theorem fn22 : FnOk Tryz.prog 22 := ⟨_, Tryz.func22, by kernel_rfl, by kernel_rfl⟩
theorem fn23 : FnOk Tryz.prog 23 := ⟨_, Tryz.func23, by kernel_rfl, by kernel_rfl⟩
theorem fn24 : FnOk Tryz.prog 24 := ⟨_, Tryz.func24, by kernel_rfl, by kernel_rfl⟩
theorem fn25 : FnOk Tryz.prog 25 := ⟨_, Tryz.func25, by kernel_rfl, by kernel_rfl⟩
theorem fn26 : FnOk Tryz.prog 26 := ⟨_, Tryz.func26, by kernel_rfl, by kernel_rfl⟩
theorem fn27 : FnOk Tryz.prog 27 := ⟨_, Tryz.func27, by kernel_rfl, by kernel_rfl⟩
theorem fn28 : FnOk Tryz.prog 28 := ⟨_, Tryz.func28, by kernel_rfl, by kernel_rfl⟩
theorem fn29 : FnOk Tryz.prog 29 := ⟨_, Tryz.func29, by kernel_rfl, by kernel_rfl⟩
theorem fn30 : FnOk Tryz.prog 30 := ⟨_, Tryz.func30, by kernel_rfl, by kernel_rfl⟩
theorem fn31 : FnOk Tryz.prog 31 := ⟨_, Tryz.func31, by kernel_rfl, by kernel_rfl⟩
theorem fn32 : FnOk Tryz.prog 32 := ⟨_, Tryz.func32, by kernel_rfl, by kernel_rfl⟩
theorem fn33 : FnOk Tryz.prog 33 := ⟨_, Tryz.func33, by kernel_rfl, by kernel_rfl⟩
theorem fn34 : FnOk Tryz.prog 34 := ⟨_, Tryz.func34, by kernel_rfl, by kernel_rfl⟩
theorem fn35 : FnOk Tryz.prog 35 := ⟨_, Tryz.func35, by kernel_rfl, by kernel_rfl⟩
theorem fn36 : FnOk Tryz.prog 36 := ⟨_, Tryz.func36, by kernel_rfl, by kernel_rfl⟩
theorem fn37 : FnOk Tryz.prog 37 := ⟨_, Tryz.func37, by kernel_rfl, by kernel_rfl⟩
theorem fn38 : FnOk Tryz.prog 38 := ⟨_, Tryz.func38, by kernel_rfl, by kernel_rfl⟩
theorem fn39 : FnOk Tryz.prog 39 := ⟨_, Tryz.func39, by kernel_rfl, by kernel_rfl⟩
theorem fn40 : FnOk Tryz.prog 40 := ⟨_, Tryz.func40, by kernel_rfl, by kernel_rfl⟩
theorem fn41 : FnOk Tryz.prog 41 := ⟨_, Tryz.func41, by kernel_rfl, by kernel_rfl⟩
theorem fn42 : FnOk Tryz.prog 42 := ⟨_, Tryz.func42, by kernel_rfl, by kernel_rfl⟩
theorem fn43 : FnOk Tryz.prog 43 := ⟨_, Tryz.func43, by kernel_rfl, by kernel_rfl⟩
theorem fn44 : FnOk Tryz.prog 44 := ⟨_, Tryz.func44, by kernel_rfl, by kernel_rfl⟩
theorem fn45 : FnOk Tryz.prog 45 := ⟨_, Tryz.func45, by kernel_rfl, by kernel_rfl⟩
theorem fn46 : FnOk Tryz.prog 46 := ⟨_, Tryz.func46, by kernel_rfl, by kernel_rfl⟩
theorem fn47 : FnOk Tryz.prog 47 := ⟨_, Tryz.func47, by kernel_rfl, by kernel_rfl⟩
theorem fn48 : FnOk Tryz.prog 48 := ⟨_, Tryz.func48, by kernel_rfl, by kernel_rfl⟩
theorem fn49 : FnOk Tryz.prog 49 := ⟨_, Tryz.func49, by kernel_rfl, by kernel_rfl⟩
theorem fn50 : FnOk Tryz.prog 50 := ⟨_, Tryz.func50, by kernel_rfl, by kernel_rfl⟩
theorem fn51 : FnOk Tryz.prog 51 := ⟨_, Tryz.func51, by kernel_rfl, by kernel_rfl⟩
theorem fn52 : FnOk Tryz.prog 52 := ⟨_, Tryz.func52, by kernel_rfl, by kernel_rfl⟩
theorem fn53 : FnOk Tryz.prog 53 := ⟨_, Tryz.func53, by kernel_rfl, by kernel_rfl⟩
theorem fn54 : FnOk Tryz.prog 54 := ⟨_, Tryz.func54, by kernel_rfl, by kernel_rfl⟩
theorem fn55 : FnOk Tryz.prog 55 := ⟨_, Tryz.func55, by kernel_rfl, by kernel_rfl⟩
theorem fn56 : FnOk Tryz.prog 56 := ⟨_, Tryz.func56, by kernel_rfl, by kernel_rfl⟩
theorem fn57 : FnOk Tryz.prog 57 := ⟨_, Tryz.func57, by kernel_rfl, by kernel_rfl⟩
theorem fn58 : FnOk Tryz.prog 58 := ⟨_, Tryz.func58, by kernel_rfl, by kernel_rfl⟩
theorem fn59 : FnOk Tryz.prog 59 := ⟨_, Tryz.func59, by kernel_rfl, by kernel_rfl⟩
theorem fn60 : FnOk Tryz.prog 60 := ⟨_, Tryz.func60, by kernel_rfl, by kernel_rfl⟩
theorem fn61 : FnOk Tryz.prog 61 := ⟨_, Tryz.func61, by kernel_rfl, by kernel_rfl⟩
theorem fn62 : FnOk Tryz.prog 62 := ⟨_, Tryz.func62, by kernel_rfl, by kernel_rfl⟩
theorem fn63 : FnOk Tryz.prog 63 := ⟨_, Tryz.func63, by kernel_rfl, by kernel_rfl⟩
theorem fn64 : FnOk Tryz.prog 64 := ⟨_, Tryz.func64, by kernel_rfl, by kernel_rfl⟩
theorem fn65 : FnOk Tryz.prog 65 := ⟨_, Tryz.func65, by kernel_rfl, by kernel_rfl⟩
theorem fn66 : FnOk Tryz.prog 66 := ⟨_, Tryz.func66, by kernel_rfl, by kernel_rfl⟩
theorem fn67 : FnOk Tryz.prog 67 := ⟨_, Tryz.func67, by kernel_rfl, by kernel_rfl⟩
theorem fn68 : FnOk Tryz.prog 68 := ⟨_, Tryz.func68, by kernel_rfl, by kernel_rfl⟩
theorem fn69 : FnOk Tryz.prog 69 := ⟨_, Tryz.func69, by kernel_rfl, by kernel_rfl⟩
theorem fn70 : FnOk Tryz.prog 70 := ⟨_, Tryz.func70, by kernel_rfl, by kernel_rfl⟩
theorem fn71 : FnOk Tryz.prog 71 := ⟨_, Tryz.func71, by kernel_rfl, by kernel_rfl⟩
theorem fn72 : FnOk Tryz.prog 72 := ⟨_, Tryz.func72, by kernel_rfl, by kernel_rfl⟩
theorem fn73 : FnOk Tryz.prog 73 := ⟨_, Tryz.func73, by kernel_rfl, by kernel_rfl⟩
theorem fn74 : FnOk Tryz.prog 74 := ⟨_, Tryz.func74, by kernel_rfl, by kernel_rfl⟩
theorem fn75 : FnOk Tryz.prog 75 := ⟨_, Tryz.func75, by kernel_rfl, by kernel_rfl⟩
theorem fn76 : FnOk Tryz.prog 76 := ⟨_, Tryz.func76, by kernel_rfl, by kernel_rfl⟩
theorem fn77 : FnOk Tryz.prog 77 := ⟨_, Tryz.func77, by kernel_rfl, by kernel_rfl⟩
theorem fn78 : FnOk Tryz.prog 78 := ⟨_, Tryz.func78, by kernel_rfl, by kernel_rfl⟩
theorem fn79 : FnOk Tryz.prog 79 := ⟨_, Tryz.func79, by kernel_rfl, by kernel_rfl⟩
theorem fn80 : FnOk Tryz.prog 80 := ⟨_, Tryz.func80, by kernel_rfl, by kernel_rfl⟩
theorem fn81 : FnOk Tryz.prog 81 := ⟨_, Tryz.func81, by kernel_rfl, by kernel_rfl⟩
theorem fn82 : FnOk Tryz.prog 82 := ⟨_, Tryz.func82, by kernel_rfl, by kernel_rfl⟩
theorem fn83 : FnOk Tryz.prog 83 := ⟨_, Tryz.func83, by kernel_rfl, by kernel_rfl⟩
theorem fn84 : FnOk Tryz.prog 84 := ⟨_, Tryz.func84, by kernel_rfl, by kernel_rfl⟩
theorem fn85 : FnOk Tryz.prog 85 := ⟨_, Tryz.func85, by kernel_rfl, by kernel_rfl⟩
theorem fn86 : FnOk Tryz.prog 86 := ⟨_, Tryz.func86, by kernel_rfl, by kernel_rfl⟩
theorem fn87 : FnOk Tryz.prog 87 := ⟨_, Tryz.func87, by kernel_rfl, by kernel_rfl⟩
theorem fn88 : FnOk Tryz.prog 88 := ⟨_, Tryz.func88, by kernel_rfl, by kernel_rfl⟩
theorem fn89 : FnOk Tryz.prog 89 := ⟨_, Tryz.func89, by kernel_rfl, by kernel_rfl⟩
theorem fn90 : FnOk Tryz.prog 90 := ⟨_, Tryz.func90, by kernel_rfl, by kernel_rfl⟩
theorem fn91 : FnOk Tryz.prog 91 := ⟨_, Tryz.func91, by kernel_rfl, by kernel_rfl⟩
theorem fn92 : FnOk Tryz.prog 92 := ⟨_, Tryz.func92, by kernel_rfl, by kernel_rfl⟩
theorem fn93 : FnOk Tryz.prog 93 := ⟨_, Tryz.func93, by kernel_rfl, by kernel_rfl⟩
theorem fn94 : FnOk Tryz.prog 94 := ⟨_, Tryz.func94, by kernel_rfl, by kernel_rfl⟩
theorem fn95 : FnOk Tryz.prog 95 := ⟨_, Tryz.func95, by kernel_rfl, by kernel_rfl⟩
theorem fn96 : FnOk Tryz.prog 96 := ⟨_, Tryz.func96, by kernel_rfl, by kernel_rfl⟩
theorem fn97 : FnOk Tryz.prog 97 := ⟨_, Tryz.func97, by kernel_rfl, by kernel_rfl⟩
theorem fn98 : FnOk Tryz.prog 98 := ⟨_, Tryz.func98, by kernel_rfl, by kernel_rfl⟩
theorem fn99 : FnOk Tryz.prog 99 := ⟨_, Tryz.func99, by kernel_rfl, by kernel_rfl⟩
theorem fn100 : FnOk Tryz.prog 100 := ⟨_, Tryz.func100, by kernel_rfl, by kernel_rfl⟩
theorem fn104 : FnOk Tryz.prog 104 := ⟨_, Tryz.func104, by kernel_rfl, by kernel_rfl⟩
theorem fn105 : FnOk Tryz.prog 105 := ⟨_, Tryz.func105, by kernel_rfl, by kernel_rfl⟩
theorem fn106 : FnOk Tryz.prog 106 := ⟨_, Tryz.func106, by kernel_rfl, by kernel_rfl⟩
theorem fn107 : FnOk Tryz.prog 107 := ⟨_, Tryz.func107, by kernel_rfl, by kernel_rfl⟩
theorem fn108 : FnOk Tryz.prog 108 := ⟨_, Tryz.func108, by kernel_rfl, by kernel_rfl⟩
theorem fn109 : FnOk Tryz.prog 109 := ⟨_, Tryz.func109, by kernel_rfl, by kernel_rfl⟩
theorem fn110 : FnOk Tryz.prog 110 := ⟨_, Tryz.func110, by kernel_rfl, by kernel_rfl⟩
theorem fn111 : FnOk Tryz.prog 111 := ⟨_, Tryz.func111, by kernel_rfl, by kernel_rfl⟩
theorem fn156 : FnOk Tryz.prog 156 := ⟨_, Tryz.func156, by kernel_rfl, by kernel_rfl⟩
theorem ti3 : TI Tryz.prog 3 1 8 := ti_of (by kernel_rfl)
theorem ti4 : TI Tryz.prog 4 1 1 := ti_of (by kernel_rfl)
theorem ti5 : TI Tryz.prog 5 1 1 := ti_of (by kernel_rfl)
theorem ti9 : TI Tryz.prog 9 1 16 := ti_of (by kernel_rfl)
theorem ti23 : TI Tryz.prog 23 1 8 := ti_of (by kernel_rfl)
theorem ti24 : TI Tryz.prog 24 2 24 := ti_of (by kernel_rfl)
theorem ti26 : TI Tryz.prog 26 1 24 := ti_of (by kernel_rfl)
theorem ti28 : TI Tryz.prog 28 1 2 := ti_of (by kernel_rfl)
theorem ti30 : TI Tryz.prog 30 11 12 := ti_of (by kernel_rfl)
theorem ti31 : TI Tryz.prog 31 1 24 := ti_of (by kernel_rfl)
theorem ti32 : TI Tryz.prog 32 1 24 := ti_of (by kernel_rfl)
theorem ti33 : TI Tryz.prog 33 1 24 := ti_of (by kernel_rfl)
theorem ti35 : TI Tryz.prog 35 5 32 := ti_of (by kernel_rfl)
theorem ti37 : TI Tryz.prog 37 21 152 := ti_of (by kernel_rfl)
theorem ti53 : TI Tryz.prog 53 3 24 := ti_of (by kernel_rfl)
theorem ti54 : TI Tryz.prog 54 1 4 := ti_of (by kernel_rfl)
theorem ti56 : TI Tryz.prog 56 5 40 := ti_of (by kernel_rfl)
theorem ti60 : TI Tryz.prog 60 4 32 := ti_of (by kernel_rfl)
theorem ti64 : TI Tryz.prog 64 1 8 := ti_of (by kernel_rfl)
theorem ti67 : TI Tryz.prog 67 2 24 := ti_of (by kernel_rfl)
theorem ti71 : TI Tryz.prog 71 1 8 := ti_of (by kernel_rfl)
theorem ti72 : TI Tryz.prog 72 4 32 := ti_of (by kernel_rfl)
theorem ti85 : TI Tryz.prog 85 2 24 := ti_of (by kernel_rfl)
theorem ti91 : TI Tryz.prog 91 1 8 := ti_of (by kernel_rfl)
theorem ti94 : TI Tryz.prog 94 2 32 := ti_of (by kernel_rfl)
theorem ti110 : TI Tryz.prog 110 1 8 := ti_of (by kernel_rfl)
theorem ti114 : TI Tryz.prog 114 2 24 := ti_of (by kernel_rfl)
theorem ti127 : TI Tryz.prog 127 1 8 := ti_of (by kernel_rfl)
theorem ti129 : TI Tryz.prog 129 1 8 := ti_of (by kernel_rfl)
theorem ti137 : TI Tryz.prog 137 1 8 := ti_of (by kernel_rfl)
theorem ti138 : TI Tryz.prog 138 8 64 := ti_of (by kernel_rfl)
theorem ti141 : TI Tryz.prog 141 8 64 := ti_of (by kernel_rfl)
theorem ti147 : TI Tryz.prog 147 1 24 := ti_of (by kernel_rfl)
theorem ti154 : TI Tryz.prog 154 1 16 := ti_of (by kernel_rfl)
theorem ti168 : TI Tryz.prog 168 2 24 := ti_of (by kernel_rfl)
theorem ti174 : TI Tryz.prog 174 1 8 := ti_of (by kernel_rfl)
theorem ti175 : TI Tryz.prog 175 3 24 := ti_of (by kernel_rfl)
theorem ti180 : TI Tryz.prog 180 4 56 := ti_of (by kernel_rfl)
theorem ti182 : TI Tryz.prog 182 1 8 := ti_of (by kernel_rfl)
theorem ti185 : TI Tryz.prog 185 1 8 := ti_of (by kernel_rfl)
theorem ti187 : TI Tryz.prog 187 2 32 := ti_of (by kernel_rfl)
theorem ti193 : TI Tryz.prog 193 5 10 := ti_of (by kernel_rfl)
theorem ti199 : TI Tryz.prog 199 3 24 := ti_of (by kernel_rfl)
theorem ti202 : TI Tryz.prog 202 1 16 := ti_of (by kernel_rfl)
theorem ti250 : TI Tryz.prog 250 4 16 := ti_of (by kernel_rfl)
theorem fd24_0 : FD Tryz.prog 24 0 0 := fd_of (by kernel_rfl)
theorem fd24_1 : FD Tryz.prog 24 1 1 := fd_of (by kernel_rfl)
theorem fd30_0 : FD Tryz.prog 30 0 0 := fd_of (by kernel_rfl)
theorem fd30_1 : FD Tryz.prog 30 1 1 := fd_of (by kernel_rfl)
theorem fd30_2 : FD Tryz.prog 30 2 2 := fd_of (by kernel_rfl)
theorem fd30_3 : FD Tryz.prog 30 3 3 := fd_of (by kernel_rfl)
theorem fd30_4 : FD Tryz.prog 30 4 4 := fd_of (by kernel_rfl)
theorem fd30_5 : FD Tryz.prog 30 5 5 := fd_of (by kernel_rfl)
theorem fd30_6 : FD Tryz.prog 30 6 6 := fd_of (by kernel_rfl)
theorem fd30_7 : FD Tryz.prog 30 7 7 := fd_of (by kernel_rfl)
theorem fd30_8 : FD Tryz.prog 30 8 8 := fd_of (by kernel_rfl)
theorem fd30_9 : FD Tryz.prog 30 9 9 := fd_of (by kernel_rfl)
theorem fd30_10 : FD Tryz.prog 30 10 10 := fd_of (by kernel_rfl)
theorem fd35_0 : FD Tryz.prog 35 0 0 := fd_of (by kernel_rfl)
theorem fd35_1 : FD Tryz.prog 35 1 1 := fd_of (by kernel_rfl)
theorem fd35_2 : FD Tryz.prog 35 2 2 := fd_of (by kernel_rfl)
theorem fd35_3 : FD Tryz.prog 35 3 3 := fd_of (by kernel_rfl)
theorem fd35_4 : FD Tryz.prog 35 4 4 := fd_of (by kernel_rfl)
theorem fd37_0 : FD Tryz.prog 37 0 0 := fd_of (by kernel_rfl)
theorem fd37_1 : FD Tryz.prog 37 1 11 := fd_of (by kernel_rfl)
theorem fd37_2 : FD Tryz.prog 37 2 12 := fd_of (by kernel_rfl)
theorem fd37_3 : FD Tryz.prog 37 3 13 := fd_of (by kernel_rfl)
theorem fd37_4 : FD Tryz.prog 37 4 14 := fd_of (by kernel_rfl)
theorem fd37_5 : FD Tryz.prog 37 5 15 := fd_of (by kernel_rfl)
theorem fd37_6 : FD Tryz.prog 37 6 16 := fd_of (by kernel_rfl)
theorem fd53_0 : FD Tryz.prog 53 0 0 := fd_of (by kernel_rfl)
theorem fd53_1 : FD Tryz.prog 53 1 1 := fd_of (by kernel_rfl)
theorem fd53_2 : FD Tryz.prog 53 2 2 := fd_of (by kernel_rfl)
theorem fd56_0 : FD Tryz.prog 56 0 0 := fd_of (by kernel_rfl)
theorem fd56_1 : FD Tryz.prog 56 1 1 := fd_of (by kernel_rfl)
theorem fd56_2 : FD Tryz.prog 56 2 2 := fd_of (by kernel_rfl)
theorem fd56_3 : FD Tryz.prog 56 3 3 := fd_of (by kernel_rfl)
theorem fd56_4 : FD Tryz.prog 56 4 4 := fd_of (by kernel_rfl)
theorem fd67_0 : FD Tryz.prog 67 0 0 := fd_of (by kernel_rfl)
theorem fd67_1 : FD Tryz.prog 67 1 1 := fd_of (by kernel_rfl)
theorem fd85_0 : FD Tryz.prog 85 0 0 := fd_of (by kernel_rfl)
theorem fd85_1 : FD Tryz.prog 85 1 1 := fd_of (by kernel_rfl)
theorem fd94_0 : FD Tryz.prog 94 0 0 := fd_of (by kernel_rfl)
theorem fd94_1 : FD Tryz.prog 94 1 1 := fd_of (by kernel_rfl)
theorem fd110_0 : FD Tryz.prog 110 0 0 := fd_of (by kernel_rfl)
theorem fd114_0 : FD Tryz.prog 114 0 0 := fd_of (by kernel_rfl)
theorem fd114_1 : FD Tryz.prog 114 1 1 := fd_of (by kernel_rfl)
theorem fd129_0 : FD Tryz.prog 129 0 0 := fd_of (by kernel_rfl)
theorem fd168_0 : FD Tryz.prog 168 0 0 := fd_of (by kernel_rfl)
theorem fd168_1 : FD Tryz.prog 168 1 1 := fd_of (by kernel_rfl)
theorem fd180_0 : FD Tryz.prog 180 0 0 := fd_of (by kernel_rfl)
theorem fd180_1 : FD Tryz.prog 180 1 1 := fd_of (by kernel_rfl)
theorem fd180_2 : FD Tryz.prog 180 2 2 := fd_of (by kernel_rfl)
theorem fd180_3 : FD Tryz.prog 180 3 3 := fd_of (by kernel_rfl)
theorem fd182_0 : FD Tryz.prog 182 0 0 := fd_of (by kernel_rfl)
theorem fd187_0 : FD Tryz.prog 187 0 0 := fd_of (by kernel_rfl)
theorem fd187_1 : FD Tryz.prog 187 1 1 := fd_of (by kernel_rfl)
theorem zv3 : ZV Tryz.prog 3 (Value.int IntKind.i64 0) := zv_of (by kernel_rfl)
theorem zv5 : ZV Tryz.prog 5 (Value.int IntKind.u8 0) := zv_of (by kernel_rfl)
theorem zv9 : ZV Tryz.prog 9 (Value.string (mk [])) := zv_of (by kernel_rfl)
theorem zv23 : ZV Tryz.prog 23 (Value.int IntKind.i64 0) := zv_of (by kernel_rfl)
theorem zv24 : ZV Tryz.prog 24 (.agg #[Value.string (mk []), Value.int IntKind.i64 0]) := zv_of (by kernel_rfl)
theorem zv26 : ZV Tryz.prog 26 (Value.slice none 0 0) := zv_of (by kernel_rfl)
theorem zv28 : ZV Tryz.prog 28 (Value.int IntKind.u16 0) := zv_of (by kernel_rfl)
theorem zv30 : ZV Tryz.prog 30 (.agg #[Value.int IntKind.u16 0, Value.bool false, Value.int IntKind.u8 0, Value.bool false, Value.bool false, Value.bool false, Value.bool false, Value.bool false, Value.bool false, Value.bool false, Value.int IntKind.u8 0]) := zv_of (by kernel_rfl)
theorem zv32 : ZV Tryz.prog 32 (Value.slice none 0 0) := zv_of (by kernel_rfl)
theorem zv35 : ZV Tryz.prog 35 (.agg #[Value.int IntKind.u16 0, Value.int IntKind.u8 0, Value.int IntKind.u8 0, Value.int IntKind.u16 0, Value.slice none 0 0]) := zv_of (by kernel_rfl)
theorem zv37 : ZV Tryz.prog 37 (.agg #[Value.int IntKind.u16 0, Value.bool false, Value.int IntKind.u8 0, Value.bool false, Value.bool false, Value.bool false, Value.bool false, Value.bool false, Value.bool false, Value.bool false, Value.int IntKind.u8 0, Value.slice none 0 0, Value.slice none 0 0, Value.slice none 0 0, Value.slice none 0 0, Value.bool false, Value.int IntKind.u16 0, Value.int IntKind.u8 0, Value.int IntKind.u8 0, Value.int IntKind.u16 0, Value.slice none 0 0]) := zv_of (by kernel_rfl)
theorem zv53 : ZV Tryz.prog 53 (.agg #[Value.string (mk []), Value.int IntKind.u16 0, Value.int IntKind.u16 0]) := zv_of (by kernel_rfl)
theorem zv56 : ZV Tryz.prog 56 (.agg #[Value.string (mk []), Value.int IntKind.u16 0, Value.int IntKind.u16 0, Value.int IntKind.u32 0, Value.string (mk [])]) := zv_of (by kernel_rfl)
theorem zv60 : ZV Tryz.prog 60 (.agg #[Value.int IntKind.i64 0, Value.int IntKind.i64 0, Value.int IntKind.i64 0, Value.int IntKind.i64 0]) := zv_of (by kernel_rfl)
theorem zv67 : ZV Tryz.prog 67 (.agg #[Value.string (mk []), Value.pointer none]) := zv_of (by kernel_rfl)
theorem zv72 : ZV Tryz.prog 72 (.agg #[Value.pointer none, Value.pointer none, Value.pointer none, Value.pointer none]) := zv_of (by kernel_rfl)
theorem zv85 : ZV Tryz.prog 85 (.agg #[Value.int IntKind.u16 0, Value.string (mk [])]) := zv_of (by kernel_rfl)
theorem zv94 : ZV Tryz.prog 94 (.agg #[Value.slice none 0 0, Value.pointer none]) := zv_of (by kernel_rfl)
theorem zv110 : ZV Tryz.prog 110 (.agg #[Value.int IntKind.i64 0]) := zv_of (by kernel_rfl)
theorem zv114 : ZV Tryz.prog 114 (.agg #[Value.string (mk []), Value.int IntKind.i64 0]) := zv_of (by kernel_rfl)
theorem zv129 : ZV Tryz.prog 129 (.agg #[Value.map none]) := zv_of (by kernel_rfl)
theorem zv138 : ZV Tryz.prog 138 (.agg #[Value.pointer none, Value.pointer none, Value.pointer none, Value.pointer none, Value.pointer none, Value.pointer none, Value.pointer none, Value.pointer none]) := zv_of (by kernel_rfl)
theorem zv141 : ZV Tryz.prog 141 (.agg #[Value.int IntKind.i64 0, Value.int IntKind.i64 0, Value.int IntKind.i64 0, Value.int IntKind.i64 0, Value.int IntKind.i64 0, Value.int IntKind.i64 0, Value.int IntKind.i64 0, Value.int IntKind.i64 0]) := zv_of (by kernel_rfl)
theorem zv154 : ZV Tryz.prog 154 (Value.nilIface) := zv_of (by kernel_rfl)
theorem zv168 : ZV Tryz.prog 168 (.agg #[Value.string (mk []), Value.bool false]) := zv_of (by kernel_rfl)
theorem zv175 : ZV Tryz.prog 175 (.agg #[Value.nilFunc, Value.nilFunc, Value.nilFunc]) := zv_of (by kernel_rfl)
theorem zv180 : ZV Tryz.prog 180 (.agg #[Value.pointer none, Value.string (mk []), Value.bool false, Value.slice none 0 0]) := zv_of (by kernel_rfl)
theorem zv182 : ZV Tryz.prog 182 (.agg #[Value.int IntKind.i64 0]) := zv_of (by kernel_rfl)
theorem zv187 : ZV Tryz.prog 187 (.agg #[Value.pointer none, Value.slice none 0 0]) := zv_of (by kernel_rfl)
theorem zv193 : ZV Tryz.prog 193 (.agg #[Value.int IntKind.u16 0, Value.int IntKind.u16 0, Value.int IntKind.u16 0, Value.int IntKind.u16 0, Value.int IntKind.u16 0]) := zv_of (by kernel_rfl)
theorem zv199 : ZV Tryz.prog 199 (.agg #[Value.pointer none, Value.pointer none, Value.int IntKind.u64 0]) := zv_of (by kernel_rfl)
theorem zv250 : ZV Tryz.prog 250 (.agg #[Value.int IntKind.i32 0, Value.int IntKind.i32 0, Value.int IntKind.i32 0, Value.int IntKind.i32 0]) := zv_of (by kernel_rfl)
theorem bd24_0_1 (w : World) (u0 : Value) (u1 : Value) (h0 : u0.oneCell' = true) (h1 : u1.oneCell' = true) : (Instr.build 24 #[(0, u0), (1, u1)]).run Tryz.prog w = .ok (.agg #[u0, u1]) w := by
  obtain ⟨i, hi, hz⟩ := zv24
  unfold Instr.build
  simp [zeroValue, typeInfo, hi, hz, run_underlying Tryz.underlying24, Instr.fill, cells_agg, SZ1_of (P := Tryz.prog) ti23, SZ1_of (P := Tryz.prog) ti9, cells_one h0, cells_one h1]
theorem bd30 (w : World) : (Instr.build 30 #[]).run Tryz.prog w = .ok (.agg #[Value.int IntKind.u16 0, Value.bool false, Value.int IntKind.u8 0, Value.bool false, Value.bool false, Value.bool false, Value.bool false, Value.bool false, Value.bool false, Value.bool false, Value.int IntKind.u8 0]) w := by
  obtain ⟨i, hi, hz⟩ := zv30
  unfold Instr.build
  simp [zeroValue, typeInfo, hi, hz, run_underlying Tryz.underlying30, Instr.fill, cells_agg, SZ1_of (P := Tryz.prog) ti28, SZ1_of (P := Tryz.prog) ti4, SZ1_of (P := Tryz.prog) ti5]
theorem bd30_0 (w : World) (u0 : Value) (h0 : u0.oneCell' = true) : (Instr.build 30 #[(0, u0)]).run Tryz.prog w = .ok (.agg #[u0, Value.bool false, Value.int IntKind.u8 0, Value.bool false, Value.bool false, Value.bool false, Value.bool false, Value.bool false, Value.bool false, Value.bool false, Value.int IntKind.u8 0]) w := by
  obtain ⟨i, hi, hz⟩ := zv30
  unfold Instr.build
  simp [zeroValue, typeInfo, hi, hz, run_underlying Tryz.underlying30, Instr.fill, cells_agg, SZ1_of (P := Tryz.prog) ti28, SZ1_of (P := Tryz.prog) ti4, SZ1_of (P := Tryz.prog) ti5, cells_one h0]
theorem bd30_0_5 (w : World) (u0 : Value) (u5 : Value) (h0 : u0.oneCell' = true) (h5 : u5.oneCell' = true) : (Instr.build 30 #[(0, u0), (5, u5)]).run Tryz.prog w = .ok (.agg #[u0, Value.bool false, Value.int IntKind.u8 0, Value.bool false, Value.bool false, u5, Value.bool false, Value.bool false, Value.bool false, Value.bool false, Value.int IntKind.u8 0]) w := by
  obtain ⟨i, hi, hz⟩ := zv30
  unfold Instr.build
  simp [zeroValue, typeInfo, hi, hz, run_underlying Tryz.underlying30, Instr.fill, cells_agg, SZ1_of (P := Tryz.prog) ti28, SZ1_of (P := Tryz.prog) ti4, SZ1_of (P := Tryz.prog) ti5, cells_one h0, cells_one h5]
theorem bd30_2 (w : World) (u2 : Value) (h2 : u2.oneCell' = true) : (Instr.build 30 #[(2, u2)]).run Tryz.prog w = .ok (.agg #[Value.int IntKind.u16 0, Value.bool false, u2, Value.bool false, Value.bool false, Value.bool false, Value.bool false, Value.bool false, Value.bool false, Value.bool false, Value.int IntKind.u8 0]) w := by
  obtain ⟨i, hi, hz⟩ := zv30
  unfold Instr.build
  simp [zeroValue, typeInfo, hi, hz, run_underlying Tryz.underlying30, Instr.fill, cells_agg, SZ1_of (P := Tryz.prog) ti28, SZ1_of (P := Tryz.prog) ti4, SZ1_of (P := Tryz.prog) ti5, cells_one h2]
theorem bd30_2_10 (w : World) (u2 : Value) (u10 : Value) (h2 : u2.oneCell' = true) (h10 : u10.oneCell' = true) : (Instr.build 30 #[(2, u2), (10, u10)]).run Tryz.prog w = .ok (.agg #[Value.int IntKind.u16 0, Value.bool false, u2, Value.bool false, Value.bool false, Value.bool false, Value.bool false, Value.bool false, Value.bool false, Value.bool false, u10]) w := by
  obtain ⟨i, hi, hz⟩ := zv30
  unfold Instr.build
  simp [zeroValue, typeInfo, hi, hz, run_underlying Tryz.underlying30, Instr.fill, cells_agg, SZ1_of (P := Tryz.prog) ti28, SZ1_of (P := Tryz.prog) ti4, SZ1_of (P := Tryz.prog) ti5, cells_one h2, cells_one h10]
theorem bd35 (w : World) : (Instr.build 35 #[]).run Tryz.prog w = .ok (.agg #[Value.int IntKind.u16 0, Value.int IntKind.u8 0, Value.int IntKind.u8 0, Value.int IntKind.u16 0, Value.slice none 0 0]) w := by
  obtain ⟨i, hi, hz⟩ := zv35
  unfold Instr.build
  simp [zeroValue, typeInfo, hi, hz, run_underlying Tryz.underlying35, Instr.fill, cells_agg, SZ1_of (P := Tryz.prog) ti28, SZ1_of (P := Tryz.prog) ti33, SZ1_of (P := Tryz.prog) ti5]
theorem bd35_0 (w : World) (u0 : Value) (h0 : u0.oneCell' = true) : (Instr.build 35 #[(0, u0)]).run Tryz.prog w = .ok (.agg #[u0, Value.int IntKind.u8 0, Value.int IntKind.u8 0, Value.int IntKind.u16 0, Value.slice none 0 0]) w := by
  obtain ⟨i, hi, hz⟩ := zv35
  unfold Instr.build
  simp [zeroValue, typeInfo, hi, hz, run_underlying Tryz.underlying35, Instr.fill, cells_agg, SZ1_of (P := Tryz.prog) ti28, SZ1_of (P := Tryz.prog) ti33, SZ1_of (P := Tryz.prog) ti5, cells_one h0]
theorem bd35_0_1_2_3 (w : World) (u0 : Value) (u1 : Value) (u2 : Value) (u3 : Value) (h0 : u0.oneCell' = true) (h1 : u1.oneCell' = true) (h2 : u2.oneCell' = true) (h3 : u3.oneCell' = true) : (Instr.build 35 #[(0, u0), (1, u1), (2, u2), (3, u3)]).run Tryz.prog w = .ok (.agg #[u0, u1, u2, u3, Value.slice none 0 0]) w := by
  obtain ⟨i, hi, hz⟩ := zv35
  unfold Instr.build
  simp [zeroValue, typeInfo, hi, hz, run_underlying Tryz.underlying35, Instr.fill, cells_agg, SZ1_of (P := Tryz.prog) ti28, SZ1_of (P := Tryz.prog) ti33, SZ1_of (P := Tryz.prog) ti5, cells_one h0, cells_one h1, cells_one h2, cells_one h3]
theorem bd35_4 (w : World) (u4 : Value) (h4 : u4.oneCell' = true) : (Instr.build 35 #[(4, u4)]).run Tryz.prog w = .ok (.agg #[Value.int IntKind.u16 0, Value.int IntKind.u8 0, Value.int IntKind.u8 0, Value.int IntKind.u16 0, u4]) w := by
  obtain ⟨i, hi, hz⟩ := zv35
  unfold Instr.build
  simp [zeroValue, typeInfo, hi, hz, run_underlying Tryz.underlying35, Instr.fill, cells_agg, SZ1_of (P := Tryz.prog) ti28, SZ1_of (P := Tryz.prog) ti33, SZ1_of (P := Tryz.prog) ti5, cells_one h4]
theorem bd37 (w : World) : (Instr.build 37 #[]).run Tryz.prog w = .ok (.agg #[Value.int IntKind.u16 0, Value.bool false, Value.int IntKind.u8 0, Value.bool false, Value.bool false, Value.bool false, Value.bool false, Value.bool false, Value.bool false, Value.bool false, Value.int IntKind.u8 0, Value.slice none 0 0, Value.slice none 0 0, Value.slice none 0 0, Value.slice none 0 0, Value.bool false, Value.int IntKind.u16 0, Value.int IntKind.u8 0, Value.int IntKind.u8 0, Value.int IntKind.u16 0, Value.slice none 0 0]) w := by
  obtain ⟨i, hi, hz⟩ := zv37
  unfold Instr.build
  simp [zeroValue, typeInfo, hi, hz, run_underlying Tryz.underlying37, Instr.fill, cells_agg, SZn_of (P := Tryz.prog) ti30, SZ1_of (P := Tryz.prog) ti31, SZ1_of (P := Tryz.prog) ti32, SZn_of (P := Tryz.prog) ti35, SZ1_of (P := Tryz.prog) ti4]
theorem bd37_0 (w : World) (u0_0 : Value) (u0_1 : Value) (u0_2 : Value) (u0_3 : Value) (u0_4 : Value) (u0_5 : Value) (u0_6 : Value) (u0_7 : Value) (u0_8 : Value) (u0_9 : Value) (u0_10 : Value) : (Instr.build 37 #[(0, .agg #[u0_0, u0_1, u0_2, u0_3, u0_4, u0_5, u0_6, u0_7, u0_8, u0_9, u0_10])]).run Tryz.prog w = .ok (.agg #[u0_0, u0_1, u0_2, u0_3, u0_4, u0_5, u0_6, u0_7, u0_8, u0_9, u0_10, Value.slice none 0 0, Value.slice none 0 0, Value.slice none 0 0, Value.slice none 0 0, Value.bool false, Value.int IntKind.u16 0, Value.int IntKind.u8 0, Value.int IntKind.u8 0, Value.int IntKind.u16 0, Value.slice none 0 0]) w := by
  obtain ⟨i, hi, hz⟩ := zv37
  unfold Instr.build
  simp [zeroValue, typeInfo, hi, hz, run_underlying Tryz.underlying37, Instr.fill, cells_agg, SZn_of (P := Tryz.prog) ti30, SZ1_of (P := Tryz.prog) ti31, SZ1_of (P := Tryz.prog) ti32, SZn_of (P := Tryz.prog) ti35, SZ1_of (P := Tryz.prog) ti4]
theorem bd37_0_1 (w : World) (u0_0 : Value) (u0_1 : Value) (u0_2 : Value) (u0_3 : Value) (u0_4 : Value) (u0_5 : Value) (u0_6 : Value) (u0_7 : Value) (u0_8 : Value) (u0_9 : Value) (u0_10 : Value) (u1 : Value) (h1 : u1.oneCell' = true) : (Instr.build 37 #[(0, .agg #[u0_0, u0_1, u0_2, u0_3, u0_4, u0_5, u0_6, u0_7, u0_8, u0_9, u0_10]), (1, u1)]).run Tryz.prog w = .ok (.agg #[u0_0, u0_1, u0_2, u0_3, u0_4, u0_5, u0_6, u0_7, u0_8, u0_9, u0_10, u1, Value.slice none 0 0, Value.slice none 0 0, Value.slice none 0 0, Value.bool false, Value.int IntKind.u16 0, Value.int IntKind.u8 0, Value.int IntKind.u8 0, Value.int IntKind.u16 0, Value.slice none 0 0]) w := by
  obtain ⟨i, hi, hz⟩ := zv37
  unfold Instr.build
  simp [zeroValue, typeInfo, hi, hz, run_underlying Tryz.underlying37, Instr.fill, cells_agg, SZn_of (P := Tryz.prog) ti30, SZ1_of (P := Tryz.prog) ti31, SZ1_of (P := Tryz.prog) ti32, SZn_of (P := Tryz.prog) ti35, SZ1_of (P := Tryz.prog) ti4, cells_one h1]
theorem bd37_1 (w : World) (u1 : Value) (h1 : u1.oneCell' = true) : (Instr.build 37 #[(1, u1)]).run Tryz.prog w = .ok (.agg #[Value.int IntKind.u16 0, Value.bool false, Value.int IntKind.u8 0, Value.bool false, Value.bool false, Value.bool false, Value.bool false, Value.bool false, Value.bool false, Value.bool false, Value.int IntKind.u8 0, u1, Value.slice none 0 0, Value.slice none 0 0, Value.slice none 0 0, Value.bool false, Value.int IntKind.u16 0, Value.int IntKind.u8 0, Value.int IntKind.u8 0, Value.int IntKind.u16 0, Value.slice none 0 0]) w := by
  obtain ⟨i, hi, hz⟩ := zv37
  unfold Instr.build
  simp [zeroValue, typeInfo, hi, hz, run_underlying Tryz.underlying37, Instr.fill, cells_agg, SZn_of (P := Tryz.prog) ti30, SZ1_of (P := Tryz.prog) ti31, SZ1_of (P := Tryz.prog) ti32, SZn_of (P := Tryz.prog) ti35, SZ1_of (P := Tryz.prog) ti4, cells_one h1]
theorem bd37_2 (w : World) (u2 : Value) (h2 : u2.oneCell' = true) : (Instr.build 37 #[(2, u2)]).run Tryz.prog w = .ok (.agg #[Value.int IntKind.u16 0, Value.bool false, Value.int IntKind.u8 0, Value.bool false, Value.bool false, Value.bool false, Value.bool false, Value.bool false, Value.bool false, Value.bool false, Value.int IntKind.u8 0, Value.slice none 0 0, u2, Value.slice none 0 0, Value.slice none 0 0, Value.bool false, Value.int IntKind.u16 0, Value.int IntKind.u8 0, Value.int IntKind.u8 0, Value.int IntKind.u16 0, Value.slice none 0 0]) w := by
  obtain ⟨i, hi, hz⟩ := zv37
  unfold Instr.build
  simp [zeroValue, typeInfo, hi, hz, run_underlying Tryz.underlying37, Instr.fill, cells_agg, SZn_of (P := Tryz.prog) ti30, SZ1_of (P := Tryz.prog) ti31, SZ1_of (P := Tryz.prog) ti32, SZn_of (P := Tryz.prog) ti35, SZ1_of (P := Tryz.prog) ti4, cells_one h2]
theorem bd37_3 (w : World) (u3 : Value) (h3 : u3.oneCell' = true) : (Instr.build 37 #[(3, u3)]).run Tryz.prog w = .ok (.agg #[Value.int IntKind.u16 0, Value.bool false, Value.int IntKind.u8 0, Value.bool false, Value.bool false, Value.bool false, Value.bool false, Value.bool false, Value.bool false, Value.bool false, Value.int IntKind.u8 0, Value.slice none 0 0, Value.slice none 0 0, u3, Value.slice none 0 0, Value.bool false, Value.int IntKind.u16 0, Value.int IntKind.u8 0, Value.int IntKind.u8 0, Value.int IntKind.u16 0, Value.slice none 0 0]) w := by
  obtain ⟨i, hi, hz⟩ := zv37
  unfold Instr.build
  simp [zeroValue, typeInfo, hi, hz, run_underlying Tryz.underlying37, Instr.fill, cells_agg, SZn_of (P := Tryz.prog) ti30, SZ1_of (P := Tryz.prog) ti31, SZ1_of (P := Tryz.prog) ti32, SZn_of (P := Tryz.prog) ti35, SZ1_of (P := Tryz.prog) ti4, cells_one h3]
theorem bd37_4 (w : World) (u4 : Value) (h4 : u4.oneCell' = true) : (Instr.build 37 #[(4, u4)]).run Tryz.prog w = .ok (.agg #[Value.int IntKind.u16 0, Value.bool false, Value.int IntKind.u8 0, Value.bool false, Value.bool false, Value.bool false, Value.bool false, Value.bool false, Value.bool false, Value.bool false, Value.int IntKind.u8 0, Value.slice none 0 0, Value.slice none 0 0, Value.slice none 0 0, u4, Value.bool false, Value.int IntKind.u16 0, Value.int IntKind.u8 0, Value.int IntKind.u8 0, Value.int IntKind.u16 0, Value.slice none 0 0]) w := by
  obtain ⟨i, hi, hz⟩ := zv37
  unfold Instr.build
  simp [zeroValue, typeInfo, hi, hz, run_underlying Tryz.underlying37, Instr.fill, cells_agg, SZn_of (P := Tryz.prog) ti30, SZ1_of (P := Tryz.prog) ti31, SZ1_of (P := Tryz.prog) ti32, SZn_of (P := Tryz.prog) ti35, SZ1_of (P := Tryz.prog) ti4, cells_one h4]
theorem bd37_5_6 (w : World) (u5 : Value) (u6_0 : Value) (u6_1 : Value) (u6_2 : Value) (u6_3 : Value) (u6_4 : Value) (h5 : u5.oneCell' = true) : (Instr.build 37 #[(5, u5), (6, .agg #[u6_0, u6_1, u6_2, u6_3, u6_4])]).run Tryz.prog w = .ok (.agg #[Value.int IntKind.u16 0, Value.bool false, Value.int IntKind.u8 0, Value.bool false, Value.bool false, Value.bool false, Value.bool false, Value.bool false, Value.bool false, Value.bool false, Value.int IntKind.u8 0, Value.slice none 0 0, Value.slice none 0 0, Value.slice none 0 0, Value.slice none 0 0, u5, u6_0, u6_1, u6_2, u6_3, u6_4]) w := by
  obtain ⟨i, hi, hz⟩ := zv37
  unfold Instr.build
  simp [zeroValue, typeInfo, hi, hz, run_underlying Tryz.underlying37, Instr.fill, cells_agg, SZn_of (P := Tryz.prog) ti30, SZ1_of (P := Tryz.prog) ti31, SZ1_of (P := Tryz.prog) ti32, SZn_of (P := Tryz.prog) ti35, SZ1_of (P := Tryz.prog) ti4, cells_one h5]
theorem bd37_6 (w : World) (u6_0 : Value) (u6_1 : Value) (u6_2 : Value) (u6_3 : Value) (u6_4 : Value) : (Instr.build 37 #[(6, .agg #[u6_0, u6_1, u6_2, u6_3, u6_4])]).run Tryz.prog w = .ok (.agg #[Value.int IntKind.u16 0, Value.bool false, Value.int IntKind.u8 0, Value.bool false, Value.bool false, Value.bool false, Value.bool false, Value.bool false, Value.bool false, Value.bool false, Value.int IntKind.u8 0, Value.slice none 0 0, Value.slice none 0 0, Value.slice none 0 0, Value.slice none 0 0, Value.bool false, u6_0, u6_1, u6_2, u6_3, u6_4]) w := by
  obtain ⟨i, hi, hz⟩ := zv37
  unfold Instr.build
  simp [zeroValue, typeInfo, hi, hz, run_underlying Tryz.underlying37, Instr.fill, cells_agg, SZn_of (P := Tryz.prog) ti30, SZ1_of (P := Tryz.prog) ti31, SZ1_of (P := Tryz.prog) ti32, SZn_of (P := Tryz.prog) ti35, SZ1_of (P := Tryz.prog) ti4]
theorem bd53 (w : World) : (Instr.build 53 #[]).run Tryz.prog w = .ok (.agg #[Value.string (mk []), Value.int IntKind.u16 0, Value.int IntKind.u16 0]) w := by
  obtain ⟨i, hi, hz⟩ := zv53
  unfold Instr.build
  simp [zeroValue, typeInfo, hi, hz, run_underlying Tryz.underlying53, Instr.fill, cells_agg, SZ1_of (P := Tryz.prog) ti28, SZ1_of (P := Tryz.prog) ti9]
theorem bd53_0_1_2 (w : World) (u0 : Value) (u1 : Value) (u2 : Value) (h0 : u0.oneCell' = true) (h1 : u1.oneCell' = true) (h2 : u2.oneCell' = true) : (Instr.build 53 #[(0, u0), (1, u1), (2, u2)]).run Tryz.prog w = .ok (.agg #[u0, u1, u2]) w := by
  obtain ⟨i, hi, hz⟩ := zv53
  unfold Instr.build
  simp [zeroValue, typeInfo, hi, hz, run_underlying Tryz.underlying53, Instr.fill, cells_agg, SZ1_of (P := Tryz.prog) ti28, SZ1_of (P := Tryz.prog) ti9, cells_one h0, cells_one h1, cells_one h2]
theorem bd56_0_1 (w : World) (u0 : Value) (u1 : Value) (h0 : u0.oneCell' = true) (h1 : u1.oneCell' = true) : (Instr.build 56 #[(0, u0), (1, u1)]).run Tryz.prog w = .ok (.agg #[u0, u1, Value.int IntKind.u16 0, Value.int IntKind.u32 0, Value.string (mk [])]) w := by
  obtain ⟨i, hi, hz⟩ := zv56
  unfold Instr.build
  simp [zeroValue, typeInfo, hi, hz, run_underlying Tryz.underlying56, Instr.fill, cells_agg, SZ1_of (P := Tryz.prog) ti28, SZ1_of (P := Tryz.prog) ti54, SZ1_of (P := Tryz.prog) ti9, cells_one h0, cells_one h1]
theorem bd56_0_1_2_3_4 (w : World) (u0 : Value) (u1 : Value) (u2 : Value) (u3 : Value) (u4 : Value) (h0 : u0.oneCell' = true) (h1 : u1.oneCell' = true) (h2 : u2.oneCell' = true) (h3 : u3.oneCell' = true) (h4 : u4.oneCell' = true) : (Instr.build 56 #[(0, u0), (1, u1), (2, u2), (3, u3), (4, u4)]).run Tryz.prog w = .ok (.agg #[u0, u1, u2, u3, u4]) w := by
  obtain ⟨i, hi, hz⟩ := zv56
  unfold Instr.build
  simp [zeroValue, typeInfo, hi, hz, run_underlying Tryz.underlying56, Instr.fill, cells_agg, SZ1_of (P := Tryz.prog) ti28, SZ1_of (P := Tryz.prog) ti54, SZ1_of (P := Tryz.prog) ti9, cells_one h0, cells_one h1, cells_one h2, cells_one h3, cells_one h4]
theorem bd56_0_1_4 (w : World) (u0 : Value) (u1 : Value) (u4 : Value) (h0 : u0.oneCell' = true) (h1 : u1.oneCell' = true) (h4 : u4.oneCell' = true) : (Instr.build 56 #[(0, u0), (1, u1), (4, u4)]).run Tryz.prog w = .ok (.agg #[u0, u1, Value.int IntKind.u16 0, Value.int IntKind.u32 0, u4]) w := by
  obtain ⟨i, hi, hz⟩ := zv56
  unfold Instr.build
  simp [zeroValue, typeInfo, hi, hz, run_underlying Tryz.underlying56, Instr.fill, cells_agg, SZ1_of (P := Tryz.prog) ti28, SZ1_of (P := Tryz.prog) ti54, SZ1_of (P := Tryz.prog) ti9, cells_one h0, cells_one h1, cells_one h4]
theorem bd56_1 (w : World) (u1 : Value) (h1 : u1.oneCell' = true) : (Instr.build 56 #[(1, u1)]).run Tryz.prog w = .ok (.agg #[Value.string (mk []), u1, Value.int IntKind.u16 0, Value.int IntKind.u32 0, Value.string (mk [])]) w := by
  obtain ⟨i, hi, hz⟩ := zv56
  unfold Instr.build
  simp [zeroValue, typeInfo, hi, hz, run_underlying Tryz.underlying56, Instr.fill, cells_agg, SZ1_of (P := Tryz.prog) ti28, SZ1_of (P := Tryz.prog) ti54, SZ1_of (P := Tryz.prog) ti9, cells_one h1]
theorem bd60 (w : World) : (Instr.build 60 #[]).run Tryz.prog w = .ok (.agg #[Value.int IntKind.i64 0, Value.int IntKind.i64 0, Value.int IntKind.i64 0, Value.int IntKind.i64 0]) w := by
  obtain ⟨i, hi, hz⟩ := zv60
  unfold Instr.build
  simp [zeroValue, typeInfo, hi, hz, run_underlying Tryz.underlying60, Instr.fill, cells_agg, SZ1_of (P := Tryz.prog) ti3]
theorem bd60_0_1_2_3 (w : World) (u0 : Value) (u1 : Value) (u2 : Value) (u3 : Value) (h0 : u0.oneCell' = true) (h1 : u1.oneCell' = true) (h2 : u2.oneCell' = true) (h3 : u3.oneCell' = true) : (Instr.build 60 #[(0, u0), (1, u1), (2, u2), (3, u3)]).run Tryz.prog w = .ok (.agg #[u0, u1, u2, u3]) w := by
  obtain ⟨i, hi, hz⟩ := zv60
  unfold Instr.build
  simp [zeroValue, typeInfo, hi, hz, run_underlying Tryz.underlying60, Instr.fill, cells_agg, SZ1_of (P := Tryz.prog) ti3, cells_one h0, cells_one h1, cells_one h2, cells_one h3]
theorem bd67_0_1 (w : World) (u0 : Value) (u1 : Value) (h0 : u0.oneCell' = true) (h1 : u1.oneCell' = true) : (Instr.build 67 #[(0, u0), (1, u1)]).run Tryz.prog w = .ok (.agg #[u0, u1]) w := by
  obtain ⟨i, hi, hz⟩ := zv67
  unfold Instr.build
  simp [zeroValue, typeInfo, hi, hz, run_underlying Tryz.underlying67, Instr.fill, cells_agg, SZ1_of (P := Tryz.prog) ti64, SZ1_of (P := Tryz.prog) ti9, cells_one h0, cells_one h1]
theorem bd72_1_2_3 (w : World) (u1 : Value) (u2 : Value) (u3 : Value) (h1 : u1.oneCell' = true) (h2 : u2.oneCell' = true) (h3 : u3.oneCell' = true) : (Instr.build 72 #[(1, u1), (2, u2), (3, u3)]).run Tryz.prog w = .ok (.agg #[Value.pointer none, u1, u2, u3]) w := by
  obtain ⟨i, hi, hz⟩ := zv72
  unfold Instr.build
  simp [zeroValue, typeInfo, hi, hz, run_underlying Tryz.underlying72, Instr.fill, cells_agg, SZ1_of (P := Tryz.prog) ti71, cells_one h1, cells_one h2, cells_one h3]
theorem bd85 (w : World) : (Instr.build 85 #[]).run Tryz.prog w = .ok (.agg #[Value.int IntKind.u16 0, Value.string (mk [])]) w := by
  obtain ⟨i, hi, hz⟩ := zv85
  unfold Instr.build
  simp [zeroValue, typeInfo, hi, hz, run_underlying Tryz.underlying85, Instr.fill, cells_agg, SZ1_of (P := Tryz.prog) ti28, SZ1_of (P := Tryz.prog) ti9]
theorem bd85_1 (w : World) (u1 : Value) (h1 : u1.oneCell' = true) : (Instr.build 85 #[(1, u1)]).run Tryz.prog w = .ok (.agg #[Value.int IntKind.u16 0, u1]) w := by
  obtain ⟨i, hi, hz⟩ := zv85
  unfold Instr.build
  simp [zeroValue, typeInfo, hi, hz, run_underlying Tryz.underlying85, Instr.fill, cells_agg, SZ1_of (P := Tryz.prog) ti28, SZ1_of (P := Tryz.prog) ti9, cells_one h1]
theorem bd94_0_1 (w : World) (u0 : Value) (u1 : Value) (h0 : u0.oneCell' = true) (h1 : u1.oneCell' = true) : (Instr.build 94 #[(0, u0), (1, u1)]).run Tryz.prog w = .ok (.agg #[u0, u1]) w := by
  obtain ⟨i, hi, hz⟩ := zv94
  unfold Instr.build
  simp [zeroValue, typeInfo, hi, hz, run_underlying Tryz.underlying94, Instr.fill, cells_agg, SZ1_of (P := Tryz.prog) ti26, SZ1_of (P := Tryz.prog) ti91, cells_one h0, cells_one h1]
theorem bd110_0 (w : World) (u0 : Value) (h0 : u0.oneCell' = true) : (Instr.build 110 #[(0, u0)]).run Tryz.prog w = .ok (.agg #[u0]) w := by
  obtain ⟨i, hi, hz⟩ := zv110
  unfold Instr.build
  simp [zeroValue, typeInfo, hi, hz, run_underlying Tryz.underlying110, Instr.fill, cells_agg, SZ1_of (P := Tryz.prog) ti23, cells_one h0]
theorem bd114_0 (w : World) (u0 : Value) (h0 : u0.oneCell' = true) : (Instr.build 114 #[(0, u0)]).run Tryz.prog w = .ok (.agg #[u0, Value.int IntKind.i64 0]) w := by
  obtain ⟨i, hi, hz⟩ := zv114
  unfold Instr.build
  simp [zeroValue, typeInfo, hi, hz, run_underlying Tryz.underlying114, Instr.fill, cells_agg, SZ1_of (P := Tryz.prog) ti3, SZ1_of (P := Tryz.prog) ti9, cells_one h0]
theorem bd129 (w : World) : (Instr.build 129 #[]).run Tryz.prog w = .ok (.agg #[Value.map none]) w := by
  obtain ⟨i, hi, hz⟩ := zv129
  unfold Instr.build
  simp [zeroValue, typeInfo, hi, hz, run_underlying Tryz.underlying129, Instr.fill, cells_agg, SZ1_of (P := Tryz.prog) ti127]
theorem bd138_0_1_2_3_4_5_6_7 (w : World) (u0 : Value) (u1 : Value) (u2 : Value) (u3 : Value) (u4 : Value) (u5 : Value) (u6 : Value) (u7 : Value) (h0 : u0.oneCell' = true) (h1 : u1.oneCell' = true) (h2 : u2.oneCell' = true) (h3 : u3.oneCell' = true) (h4 : u4.oneCell' = true) (h5 : u5.oneCell' = true) (h6 : u6.oneCell' = true) (h7 : u7.oneCell' = true) : (Instr.build 138 #[(0, u0), (1, u1), (2, u2), (3, u3), (4, u4), (5, u5), (6, u6), (7, u7)]).run Tryz.prog w = .ok (.agg #[u0, u1, u2, u3, u4, u5, u6, u7]) w := by
  obtain ⟨i, hi, hz⟩ := zv138
  unfold Instr.build
  simp [zeroValue, typeInfo, hi, hz, run_underlying Tryz.underlying138, Instr.fill, cells_agg, SZ1_of (P := Tryz.prog) ti137, cells_one h0, cells_one h1, cells_one h2, cells_one h3, cells_one h4, cells_one h5, cells_one h6, cells_one h7]
theorem bd141_0_1_2_3_4_5_6_7 (w : World) (u0 : Value) (u1 : Value) (u2 : Value) (u3 : Value) (u4 : Value) (u5 : Value) (u6 : Value) (u7 : Value) (h0 : u0.oneCell' = true) (h1 : u1.oneCell' = true) (h2 : u2.oneCell' = true) (h3 : u3.oneCell' = true) (h4 : u4.oneCell' = true) (h5 : u5.oneCell' = true) (h6 : u6.oneCell' = true) (h7 : u7.oneCell' = true) : (Instr.build 141 #[(0, u0), (1, u1), (2, u2), (3, u3), (4, u4), (5, u5), (6, u6), (7, u7)]).run Tryz.prog w = .ok (.agg #[u0, u1, u2, u3, u4, u5, u6, u7]) w := by
  obtain ⟨i, hi, hz⟩ := zv141
  unfold Instr.build
  simp [zeroValue, typeInfo, hi, hz, run_underlying Tryz.underlying141, Instr.fill, cells_agg, SZ1_of (P := Tryz.prog) ti3, cells_one h0, cells_one h1, cells_one h2, cells_one h3, cells_one h4, cells_one h5, cells_one h6, cells_one h7]
theorem bd168_0 (w : World) (u0 : Value) (h0 : u0.oneCell' = true) : (Instr.build 168 #[(0, u0)]).run Tryz.prog w = .ok (.agg #[u0, Value.bool false]) w := by
  obtain ⟨i, hi, hz⟩ := zv168
  unfold Instr.build
  simp [zeroValue, typeInfo, hi, hz, run_underlying Tryz.underlying168, Instr.fill, cells_agg, SZ1_of (P := Tryz.prog) ti4, SZ1_of (P := Tryz.prog) ti9, cells_one h0]
theorem bd168_0_1 (w : World) (u0 : Value) (u1 : Value) (h0 : u0.oneCell' = true) (h1 : u1.oneCell' = true) : (Instr.build 168 #[(0, u0), (1, u1)]).run Tryz.prog w = .ok (.agg #[u0, u1]) w := by
  obtain ⟨i, hi, hz⟩ := zv168
  unfold Instr.build
  simp [zeroValue, typeInfo, hi, hz, run_underlying Tryz.underlying168, Instr.fill, cells_agg, SZ1_of (P := Tryz.prog) ti4, SZ1_of (P := Tryz.prog) ti9, cells_one h0, cells_one h1]
theorem bd175_0 (w : World) (u0 : Value) (h0 : u0.oneCell' = true) : (Instr.build 175 #[(0, u0)]).run Tryz.prog w = .ok (.agg #[u0, Value.nilFunc, Value.nilFunc]) w := by
  obtain ⟨i, hi, hz⟩ := zv175
  unfold Instr.build
  simp [zeroValue, typeInfo, hi, hz, run_underlying Tryz.underlying175, Instr.fill, cells_agg, SZ1_of (P := Tryz.prog) ti174, cells_one h0]
theorem bd175_0_1 (w : World) (u0 : Value) (u1 : Value) (h0 : u0.oneCell' = true) (h1 : u1.oneCell' = true) : (Instr.build 175 #[(0, u0), (1, u1)]).run Tryz.prog w = .ok (.agg #[u0, u1, Value.nilFunc]) w := by
  obtain ⟨i, hi, hz⟩ := zv175
  unfold Instr.build
  simp [zeroValue, typeInfo, hi, hz, run_underlying Tryz.underlying175, Instr.fill, cells_agg, SZ1_of (P := Tryz.prog) ti174, cells_one h0, cells_one h1]
theorem bd175_0_1_2 (w : World) (u0 : Value) (u1 : Value) (u2 : Value) (h0 : u0.oneCell' = true) (h1 : u1.oneCell' = true) (h2 : u2.oneCell' = true) : (Instr.build 175 #[(0, u0), (1, u1), (2, u2)]).run Tryz.prog w = .ok (.agg #[u0, u1, u2]) w := by
  obtain ⟨i, hi, hz⟩ := zv175
  unfold Instr.build
  simp [zeroValue, typeInfo, hi, hz, run_underlying Tryz.underlying175, Instr.fill, cells_agg, SZ1_of (P := Tryz.prog) ti174, cells_one h0, cells_one h1, cells_one h2]
theorem bd180_0_1_2 (w : World) (u0 : Value) (u1 : Value) (u2 : Value) (h0 : u0.oneCell' = true) (h1 : u1.oneCell' = true) (h2 : u2.oneCell' = true) : (Instr.build 180 #[(0, u0), (1, u1), (2, u2)]).run Tryz.prog w = .ok (.agg #[u0, u1, u2, Value.slice none 0 0]) w := by
  obtain ⟨i, hi, hz⟩ := zv180
  unfold Instr.build
  simp [zeroValue, typeInfo, hi, hz, run_underlying Tryz.underlying180, Instr.fill, cells_agg, SZ1_of (P := Tryz.prog) ti147, SZ1_of (P := Tryz.prog) ti4, SZ1_of (P := Tryz.prog) ti64, SZ1_of (P := Tryz.prog) ti9, cells_one h0, cells_one h1, cells_one h2]
theorem bd182 (w : World) : (Instr.build 182 #[]).run Tryz.prog w = .ok (.agg #[Value.int IntKind.i64 0]) w := by
  obtain ⟨i, hi, hz⟩ := zv182
  unfold Instr.build
  simp [zeroValue, typeInfo, hi, hz, run_underlying Tryz.underlying182, Instr.fill, cells_agg, SZ1_of (P := Tryz.prog) ti23]
theorem bd182_0 (w : World) (u0 : Value) (h0 : u0.oneCell' = true) : (Instr.build 182 #[(0, u0)]).run Tryz.prog w = .ok (.agg #[u0]) w := by
  obtain ⟨i, hi, hz⟩ := zv182
  unfold Instr.build
  simp [zeroValue, typeInfo, hi, hz, run_underlying Tryz.underlying182, Instr.fill, cells_agg, SZ1_of (P := Tryz.prog) ti23, cells_one h0]
theorem bd193_0_1_2_3_4 (w : World) (u0 : Value) (u1 : Value) (u2 : Value) (u3 : Value) (u4 : Value) (h0 : u0.oneCell' = true) (h1 : u1.oneCell' = true) (h2 : u2.oneCell' = true) (h3 : u3.oneCell' = true) (h4 : u4.oneCell' = true) : (Instr.build 193 #[(0, u0), (1, u1), (2, u2), (3, u3), (4, u4)]).run Tryz.prog w = .ok (.agg #[u0, u1, u2, u3, u4]) w := by
  obtain ⟨i, hi, hz⟩ := zv193
  unfold Instr.build
  simp [zeroValue, typeInfo, hi, hz, run_underlying Tryz.underlying193, Instr.fill, cells_agg, SZ1_of (P := Tryz.prog) ti28, cells_one h0, cells_one h1, cells_one h2, cells_one h3, cells_one h4]
theorem fl3 : flat Tryz.prog 3 = true := by unfold flat; rw [Tryz.underlying3]
theorem fl4 : flat Tryz.prog 4 = true := by unfold flat; rw [Tryz.underlying4]
theorem fl5 : flat Tryz.prog 5 = true := by unfold flat; rw [Tryz.underlying5]
theorem fl9 : flat Tryz.prog 9 = true := by unfold flat; rw [Tryz.underlying9]
theorem fl23 : flat Tryz.prog 23 = true := by unfold flat; rw [Tryz.underlying23]
theorem fl26 : flat Tryz.prog 26 = true := by unfold flat; rw [Tryz.underlying26]
theorem fl28 : flat Tryz.prog 28 = true := by unfold flat; rw [Tryz.underlying28]
theorem fl31 : flat Tryz.prog 31 = true := by unfold flat; rw [Tryz.underlying31]
theorem fl32 : flat Tryz.prog 32 = true := by unfold flat; rw [Tryz.underlying32]
theorem fl33 : flat Tryz.prog 33 = true := by unfold flat; rw [Tryz.underlying33]
theorem fl54 : flat Tryz.prog 54 = true := by unfold flat; rw [Tryz.underlying54]
theorem fl64 : flat Tryz.prog 64 = true := by unfold flat; rw [Tryz.underlying64]
theorem fl91 : flat Tryz.prog 91 = true := by unfold flat; rw [Tryz.underlying91]
theorem fl127 : flat Tryz.prog 127 = true := by unfold flat; rw [Tryz.underlying127]
theorem fl147 : flat Tryz.prog 147 = true := by unfold flat; rw [Tryz.underlying147]
theorem fl154 : flat Tryz.prog 154 = true := by unfold flat; rw [Tryz.underlying154]
theorem fl185 : flat Tryz.prog 185 = true := by unfold flat; rw [Tryz.underlying185]
theorem fl202 : flat Tryz.prog 202 = true := by unfold flat; rw [Tryz.underlying202]
end Go.Proofs.YtpoebplhemimmaaGreatDoor
