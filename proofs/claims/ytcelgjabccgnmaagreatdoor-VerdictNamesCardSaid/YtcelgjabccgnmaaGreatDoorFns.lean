/-
  Each function of the translation that has a body; the sizes of types.
-/
import Derived.Test.YtcelgjabccgnmaaGreatDoorHeap
namespace Go.Proofs.YtcelgjabccgnmaaGreatDoor
theorem fn2 : FnOk Tryz.prog 2 := ⟨_, Tryz.func2, by kernel_rfl, by kernel_rfl⟩
theorem fn3 : FnOk Tryz.prog 3 := ⟨_, Tryz.func3, by kernel_rfl, by kernel_rfl⟩
theorem fn4 : FnOk Tryz.prog 4 := ⟨_, Tryz.func4, by kernel_rfl, by kernel_rfl⟩
theorem fn5 : FnOk Tryz.prog 5 := ⟨_, Tryz.func5, by kernel_rfl, by kernel_rfl⟩
theorem fn6 : FnOk Tryz.prog 6 := ⟨_, Tryz.func6, by kernel_rfl, by kernel_rfl⟩
theorem fn7 : FnOk Tryz.prog 7 := ⟨_, Tryz.func7, by kernel_rfl, by kernel_rfl⟩
theorem fn8 : FnOk Tryz.prog 8 := ⟨_, Tryz.func8, by kernel_rfl, by kernel_rfl⟩
theorem fn9 : FnOk Tryz.prog 9 := ⟨_, Tryz.func9, by kernel_rfl, by kernel_rfl⟩
theorem fn10 : FnOk Tryz.prog 10 := ⟨_, Tryz.func10, by kernel_rfl, by kernel_rfl⟩
theorem fn11 : FnOk Tryz.prog 11 := ⟨_, Tryz.func11, by kernel_rfl, by kernel_rfl⟩
theorem fn12 : FnOk Tryz.prog 12 := ⟨_, Tryz.func12, by kernel_rfl, by kernel_rfl⟩
theorem fn13 : FnOk Tryz.prog 13 := ⟨_, Tryz.func13, by kernel_rfl, by kernel_rfl⟩
theorem fn14 : FnOk Tryz.prog 14 := ⟨_, Tryz.func14, by kernel_rfl, by kernel_rfl⟩
theorem fn15 : FnOk Tryz.prog 15 := ⟨_, Tryz.func15, by kernel_rfl, by kernel_rfl⟩
theorem fn16 : FnOk Tryz.prog 16 := ⟨_, Tryz.func16, by kernel_rfl, by kernel_rfl⟩
theorem fn17 : FnOk Tryz.prog 17 := ⟨_, Tryz.func17, by kernel_rfl, by kernel_rfl⟩
theorem fn18 : FnOk Tryz.prog 18 := ⟨_, Tryz.func18, by kernel_rfl, by kernel_rfl⟩
theorem fn19 : FnOk Tryz.prog 19 := ⟨_, Tryz.func19, by kernel_rfl, by kernel_rfl⟩
theorem fn20 : FnOk Tryz.prog 20 := ⟨_, Tryz.func20, by kernel_rfl, by kernel_rfl⟩
theorem fn21 : FnOk Tryz.prog 21 := ⟨_, Tryz.func21, by kernel_rfl, by kernel_rfl⟩
theorem fn22 : FnOk Tryz.prog 22 := ⟨_, Tryz.func22, by kernel_rfl, by kernel_rfl⟩
theorem fn23 : FnOk Tryz.prog 23 := ⟨_, Tryz.func23, by kernel_rfl, by kernel_rfl⟩
theorem fn24 : FnOk Tryz.prog 24 := ⟨_, Tryz.func24, by kernel_rfl, by kernel_rfl⟩
theorem fn25 : FnOk Tryz.prog 25 := ⟨_, Tryz.func25, by kernel_rfl, by kernel_rfl⟩
theorem fn26 : FnOk Tryz.prog 26 := ⟨_, Tryz.func26, by kernel_rfl, by kernel_rfl⟩
theorem fn27 : FnOk Tryz.prog 27 := ⟨_, Tryz.func27, by kernel_rfl, by kernel_rfl⟩
theorem fn28 : FnOk Tryz.prog 28 := ⟨_, Tryz.func28, by kernel_rfl, by kernel_rfl⟩
theorem fn29 : FnOk Tryz.prog 29 := ⟨_, Tryz.func29, by kernel_rfl, by kernel_rfl⟩
theorem fn30 : FnOk Tryz.prog 30 := ⟨_, Tryz.func30, by kernel_rfl, by kernel_rfl⟩
theorem fn31 : FnOk Tryz.prog 31 := ⟨_, Tryz.func31, by kernel_rfl, by kernel_rfl⟩
theorem fn32 : FnOk Tryz.prog 32 := ⟨_, Tryz.func32, by kernel_rfl, by kernel_rfl⟩
theorem fn33 : FnOk Tryz.prog 33 := ⟨_, Tryz.func33, by kernel_rfl, by kernel_rfl⟩
theorem fn34 : FnOk Tryz.prog 34 := ⟨_, Tryz.func34, by kernel_rfl, by kernel_rfl⟩
theorem fn35 : FnOk Tryz.prog 35 := ⟨_, Tryz.func35, by kernel_rfl, by kernel_rfl⟩
theorem fn36 : FnOk Tryz.prog 36 := ⟨_, Tryz.func36, by kernel_rfl, by kernel_rfl⟩
theorem fn37 : FnOk Tryz.prog 37 := ⟨_, Tryz.func37, by kernel_rfl, by kernel_rfl⟩
theorem fn38 : FnOk Tryz.prog 38 := ⟨_, Tryz.func38, by kernel_rfl, by kernel_rfl⟩
theorem fn39 : FnOk Tryz.prog 39 := ⟨_, Tryz.func39, by kernel_rfl, by kernel_rfl⟩
theorem fn40 : FnOk Tryz.prog 40 := ⟨_, Tryz.func40, by kernel_rfl, by kernel_rfl⟩
theorem fn41 : FnOk Tryz.prog 41 := ⟨_, Tryz.func41, by kernel_rfl, by kernel_rfl⟩
theorem fn42 : FnOk Tryz.prog 42 := ⟨_, Tryz.func42, by kernel_rfl, by kernel_rfl⟩
theorem fn43 : FnOk Tryz.prog 43 := ⟨_, Tryz.func43, by kernel_rfl, by kernel_rfl⟩
theorem fn44 : FnOk Tryz.prog 44 := ⟨_, Tryz.func44, by kernel_rfl, by kernel_rfl⟩
theorem fn45 : FnOk Tryz.prog 45 := ⟨_, Tryz.func45, by kernel_rfl, by kernel_rfl⟩
theorem fn46 : FnOk Tryz.prog 46 := ⟨_, Tryz.func46, by kernel_rfl, by kernel_rfl⟩
theorem fn47 : FnOk Tryz.prog 47 := ⟨_, Tryz.func47, by kernel_rfl, by kernel_rfl⟩
theorem fn48 : FnOk Tryz.prog 48 := ⟨_, Tryz.func48, by kernel_rfl, by kernel_rfl⟩
theorem fn49 : FnOk Tryz.prog 49 := ⟨_, Tryz.func49, by kernel_rfl, by kernel_rfl⟩
theorem fn50 : FnOk Tryz.prog 50 := ⟨_, Tryz.func50, by kernel_rfl, by kernel_rfl⟩
theorem fn51 : FnOk Tryz.prog 51 := ⟨_, Tryz.func51, by kernel_rfl, by kernel_rfl⟩
theorem fn52 : FnOk Tryz.prog 52 := ⟨_, Tryz.func52, by kernel_rfl, by kernel_rfl⟩
theorem fn53 : FnOk Tryz.prog 53 := ⟨_, Tryz.func53, by kernel_rfl, by kernel_rfl⟩
theorem fn54 : FnOk Tryz.prog 54 := ⟨_, Tryz.func54, by kernel_rfl, by kernel_rfl⟩
theorem fn55 : FnOk Tryz.prog 55 := ⟨_, Tryz.func55, by kernel_rfl, by kernel_rfl⟩
theorem fn56 : FnOk Tryz.prog 56 := ⟨_, Tryz.func56, by kernel_rfl, by kernel_rfl⟩
theorem fn57 : FnOk Tryz.prog 57 := ⟨_, Tryz.func57, by kernel_rfl, by kernel_rfl⟩
theorem fn58 : FnOk Tryz.prog 58 := ⟨_, Tryz.func58, by kernel_rfl, by kernel_rfl⟩
theorem fn59 : FnOk Tryz.prog 59 := ⟨_, Tryz.func59, by kernel_rfl, by kernel_rfl⟩
theorem fn60 : FnOk Tryz.prog 60 := ⟨_, Tryz.func60, by kernel_rfl, by kernel_rfl⟩
theorem fn61 : FnOk Tryz.prog 61 := ⟨_, Tryz.func61, by kernel_rfl, by kernel_rfl⟩
theorem fn62 : FnOk Tryz.prog 62 := ⟨_, Tryz.func62, by kernel_rfl, by kernel_rfl⟩
theorem fn63 : FnOk Tryz.prog 63 := ⟨_, Tryz.func63, by kernel_rfl, by kernel_rfl⟩
theorem fn64 : FnOk Tryz.prog 64 := ⟨_, Tryz.func64, by kernel_rfl, by kernel_rfl⟩
theorem fn65 : FnOk Tryz.prog 65 := ⟨_, Tryz.func65, by kernel_rfl, by kernel_rfl⟩
theorem fn66 : FnOk Tryz.prog 66 := ⟨_, Tryz.func66, by kernel_rfl, by kernel_rfl⟩
theorem fn67 : FnOk Tryz.prog 67 := ⟨_, Tryz.func67, by kernel_rfl, by kernel_rfl⟩
theorem fn68 : FnOk Tryz.prog 68 := ⟨_, Tryz.func68, by kernel_rfl, by kernel_rfl⟩
theorem fn69 : FnOk Tryz.prog 69 := ⟨_, Tryz.func69, by kernel_rfl, by kernel_rfl⟩
theorem fn70 : FnOk Tryz.prog 70 := ⟨_, Tryz.func70, by kernel_rfl, by kernel_rfl⟩
theorem fn71 : FnOk Tryz.prog 71 := ⟨_, Tryz.func71, by kernel_rfl, by kernel_rfl⟩
theorem fn72 : FnOk Tryz.prog 72 := ⟨_, Tryz.func72, by kernel_rfl, by kernel_rfl⟩
theorem fn73 : FnOk Tryz.prog 73 := ⟨_, Tryz.func73, by kernel_rfl, by kernel_rfl⟩
theorem fn74 : FnOk Tryz.prog 74 := ⟨_, Tryz.func74, by kernel_rfl, by kernel_rfl⟩
theorem fn75 : FnOk Tryz.prog 75 := ⟨_, Tryz.func75, by kernel_rfl, by kernel_rfl⟩
theorem fn76 : FnOk Tryz.prog 76 := ⟨_, Tryz.func76, by kernel_rfl, by kernel_rfl⟩
theorem fn77 : FnOk Tryz.prog 77 := ⟨_, Tryz.func77, by kernel_rfl, by kernel_rfl⟩
theorem fn78 : FnOk Tryz.prog 78 := ⟨_, Tryz.func78, by kernel_rfl, by kernel_rfl⟩
theorem fn79 : FnOk Tryz.prog 79 := ⟨_, Tryz.func79, by kernel_rfl, by kernel_rfl⟩
theorem fn80 : FnOk Tryz.prog 80 := ⟨_, Tryz.func80, by kernel_rfl, by kernel_rfl⟩
theorem fn81 : FnOk Tryz.prog 81 := ⟨_, Tryz.func81, by kernel_rfl, by kernel_rfl⟩
theorem fn82 : FnOk Tryz.prog 82 := ⟨_, Tryz.func82, by kernel_rfl, by kernel_rfl⟩
theorem fn83 : FnOk Tryz.prog 83 := ⟨_, Tryz.func83, by kernel_rfl, by kernel_rfl⟩
theorem fn84 : FnOk Tryz.prog 84 := ⟨_, Tryz.func84, by kernel_rfl, by kernel_rfl⟩
theorem fn85 : FnOk Tryz.prog 85 := ⟨_, Tryz.func85, by kernel_rfl, by kernel_rfl⟩
theorem fn86 : FnOk Tryz.prog 86 := ⟨_, Tryz.func86, by kernel_rfl, by kernel_rfl⟩
theorem fn87 : FnOk Tryz.prog 87 := ⟨_, Tryz.func87, by kernel_rfl, by kernel_rfl⟩
theorem fn88 : FnOk Tryz.prog 88 := ⟨_, Tryz.func88, by kernel_rfl, by kernel_rfl⟩
theorem fn89 : FnOk Tryz.prog 89 := ⟨_, Tryz.func89, by kernel_rfl, by kernel_rfl⟩
theorem fn90 : FnOk Tryz.prog 90 := ⟨_, Tryz.func90, by kernel_rfl, by kernel_rfl⟩
theorem fn91 : FnOk Tryz.prog 91 := ⟨_, Tryz.func91, by kernel_rfl, by kernel_rfl⟩
theorem fn92 : FnOk Tryz.prog 92 := ⟨_, Tryz.func92, by kernel_rfl, by kernel_rfl⟩
theorem fn93 : FnOk Tryz.prog 93 := ⟨_, Tryz.func93, by kernel_rfl, by kernel_rfl⟩
theorem fn94 : FnOk Tryz.prog 94 := ⟨_, Tryz.func94, by kernel_rfl, by kernel_rfl⟩
theorem fn95 : FnOk Tryz.prog 95 := ⟨_, Tryz.func95, by kernel_rfl, by kernel_rfl⟩
theorem fn97 : FnOk Tryz.prog 97 := ⟨_, Tryz.func97, by kernel_rfl, by kernel_rfl⟩
theorem fn98 : FnOk Tryz.prog 98 := ⟨_, Tryz.func98, by kernel_rfl, by kernel_rfl⟩
theorem fn99 : FnOk Tryz.prog 99 := ⟨_, Tryz.func99, by kernel_rfl, by kernel_rfl⟩
theorem fn101 : FnOk Tryz.prog 101 := ⟨_, Tryz.func101, by kernel_rfl, by kernel_rfl⟩
theorem fn102 : FnOk Tryz.prog 102 := ⟨_, Tryz.func102, by kernel_rfl, by kernel_rfl⟩
theorem fn103 : FnOk Tryz.prog 103 := ⟨_, Tryz.func103, by kernel_rfl, by kernel_rfl⟩
theorem fn104 : FnOk Tryz.prog 104 := ⟨_, Tryz.func104, by kernel_rfl, by kernel_rfl⟩
theorem fn105 : FnOk Tryz.prog 105 := ⟨_, Tryz.func105, by kernel_rfl, by kernel_rfl⟩
theorem fn106 : FnOk Tryz.prog 106 := ⟨_, Tryz.func106, by kernel_rfl, by kernel_rfl⟩
theorem fn107 : FnOk Tryz.prog 107 := ⟨_, Tryz.func107, by kernel_rfl, by kernel_rfl⟩
theorem fn108 : FnOk Tryz.prog 108 := ⟨_, Tryz.func108, by kernel_rfl, by kernel_rfl⟩
theorem fn109 : FnOk Tryz.prog 109 := ⟨_, Tryz.func109, by kernel_rfl, by kernel_rfl⟩
theorem fn110 : FnOk Tryz.prog 110 := ⟨_, Tryz.func110, by kernel_rfl, by kernel_rfl⟩
theorem fn111 : FnOk Tryz.prog 111 := ⟨_, Tryz.func111, by kernel_rfl, by kernel_rfl⟩
theorem fn112 : FnOk Tryz.prog 112 := ⟨_, Tryz.func112, by kernel_rfl, by kernel_rfl⟩
theorem fn113 : FnOk Tryz.prog 113 := ⟨_, Tryz.func113, by kernel_rfl, by kernel_rfl⟩
theorem fn114 : FnOk Tryz.prog 114 := ⟨_, Tryz.func114, by kernel_rfl, by kernel_rfl⟩
theorem fn115 : FnOk Tryz.prog 115 := ⟨_, Tryz.func115, by kernel_rfl, by kernel_rfl⟩
theorem fn116 : FnOk Tryz.prog 116 := ⟨_, Tryz.func116, by kernel_rfl, by kernel_rfl⟩
theorem fn117 : FnOk Tryz.prog 117 := ⟨_, Tryz.func117, by kernel_rfl, by kernel_rfl⟩
theorem fn118 : FnOk Tryz.prog 118 := ⟨_, Tryz.func118, by kernel_rfl, by kernel_rfl⟩
theorem fn119 : FnOk Tryz.prog 119 := ⟨_, Tryz.func119, by kernel_rfl, by kernel_rfl⟩
theorem fn120 : FnOk Tryz.prog 120 := ⟨_, Tryz.func120, by kernel_rfl, by kernel_rfl⟩
theorem fn121 : FnOk Tryz.prog 121 := ⟨_, Tryz.func121, by kernel_rfl, by kernel_rfl⟩
theorem fn122 : FnOk Tryz.prog 122 := ⟨_, Tryz.func122, by kernel_rfl, by kernel_rfl⟩
theorem fn123 : FnOk Tryz.prog 123 := ⟨_, Tryz.func123, by kernel_rfl, by kernel_rfl⟩
theorem fn124 : FnOk Tryz.prog 124 := ⟨_, Tryz.func124, by kernel_rfl, by kernel_rfl⟩
theorem fn125 : FnOk Tryz.prog 125 := ⟨_, Tryz.func125, by kernel_rfl, by kernel_rfl⟩
theorem fn126 : FnOk Tryz.prog 126 := ⟨_, Tryz.func126, by kernel_rfl, by kernel_rfl⟩
theorem fn127 : FnOk Tryz.prog 127 := ⟨_, Tryz.func127, by kernel_rfl, by kernel_rfl⟩
theorem fn128 : FnOk Tryz.prog 128 := ⟨_, Tryz.func128, by kernel_rfl, by kernel_rfl⟩
theorem fn129 : FnOk Tryz.prog 129 := ⟨_, Tryz.func129, by kernel_rfl, by kernel_rfl⟩
theorem fn130 : FnOk Tryz.prog 130 := ⟨_, Tryz.func130, by kernel_rfl, by kernel_rfl⟩
theorem fn131 : FnOk Tryz.prog 131 := ⟨_, Tryz.func131, by kernel_rfl, by kernel_rfl⟩
theorem fn132 : FnOk Tryz.prog 132 := ⟨_, Tryz.func132, by kernel_rfl, by kernel_rfl⟩
theorem fn133 : FnOk Tryz.prog 133 := ⟨_, Tryz.func133, by kernel_rfl, by kernel_rfl⟩
theorem fn134 : FnOk Tryz.prog 134 := ⟨_, Tryz.func134, by kernel_rfl, by kernel_rfl⟩
theorem fn135 : FnOk Tryz.prog 135 := ⟨_, Tryz.func135, by kernel_rfl, by kernel_rfl⟩
theorem fn136 : FnOk Tryz.prog 136 := ⟨_, Tryz.func136, by kernel_rfl, by kernel_rfl⟩
theorem fn137 : FnOk Tryz.prog 137 := ⟨_, Tryz.func137, by kernel_rfl, by kernel_rfl⟩
theorem fn138 : FnOk Tryz.prog 138 := ⟨_, Tryz.func138, by kernel_rfl, by kernel_rfl⟩
theorem fn139 : FnOk Tryz.prog 139 := ⟨_, Tryz.func139, by kernel_rfl, by kernel_rfl⟩
theorem fn140 : FnOk Tryz.prog 140 := ⟨_, Tryz.func140, by kernel_rfl, by kernel_rfl⟩
theorem fn141 : FnOk Tryz.prog 141 := ⟨_, Tryz.func141, by kernel_rfl, by kernel_rfl⟩
theorem fn142 : FnOk Tryz.prog 142 := ⟨_, Tryz.func142, by kernel_rfl, by kernel_rfl⟩
theorem fn143 : FnOk Tryz.prog 143 := ⟨_, Tryz.func143, by kernel_rfl, by kernel_rfl⟩
theorem fn144 : FnOk Tryz.prog 144 := ⟨_, Tryz.func144, by kernel_rfl, by kernel_rfl⟩
theorem fn145 : FnOk Tryz.prog 145 := ⟨_, Tryz.func145, by kernel_rfl, by kernel_rfl⟩
theorem fn146 : FnOk Tryz.prog 146 := ⟨_, Tryz.func146, by kernel_rfl, by kernel_rfl⟩
theorem fn147 : FnOk Tryz.prog 147 := ⟨_, Tryz.func147, by kernel_rfl, by kernel_rfl⟩
theorem fn148 : FnOk Tryz.prog 148 := ⟨_, Tryz.func148, by kernel_rfl, by kernel_rfl⟩
theorem fn149 : FnOk Tryz.prog 149 := ⟨_, Tryz.func149, by kernel_rfl, by kernel_rfl⟩
theorem fn150 : FnOk Tryz.prog 150 := ⟨_, Tryz.func150, by kernel_rfl, by kernel_rfl⟩
theorem fn151 : FnOk Tryz.prog 151 := ⟨_, Tryz.func151, by kernel_rfl, by kernel_rfl⟩
theorem fn153 : FnOk Tryz.prog 153 := ⟨_, Tryz.func153, by kernel_rfl, by kernel_rfl⟩
theorem fn154 : FnOk Tryz.prog 154 := ⟨_, Tryz.func154, by kernel_rfl, by kernel_rfl⟩
theorem fn155 : FnOk Tryz.prog 155 := ⟨_, Tryz.func155, by kernel_rfl, by kernel_rfl⟩
theorem fn156 : FnOk Tryz.prog 156 := ⟨_, Tryz.func156, by kernel_rfl, by kernel_rfl⟩
theorem fn157 : FnOk Tryz.prog 157 := ⟨_, Tryz.func157, by kernel_rfl, by kernel_rfl⟩
theorem fn158 : FnOk Tryz.prog 158 := ⟨_, Tryz.func158, by kernel_rfl, by kernel_rfl⟩
theorem fn159 : FnOk Tryz.prog 159 := ⟨_, Tryz.func159, by kernel_rfl, by kernel_rfl⟩
theorem fn163 : FnOk Tryz.prog 163 := ⟨_, Tryz.func163, by kernel_rfl, by kernel_rfl⟩
theorem fn204 : FnOk Tryz.prog 204 := ⟨_, Tryz.func204, by kernel_rfl, by kernel_rfl⟩
theorem ti3 : TI Tryz.prog 3 1 8 := ti_of (by kernel_rfl)
theorem ti4 : TI Tryz.prog 4 1 1 := ti_of (by kernel_rfl)
theorem ti5 : TI Tryz.prog 5 1 1 := ti_of (by kernel_rfl)
theorem ti9 : TI Tryz.prog 9 1 16 := ti_of (by kernel_rfl)
theorem ti22 : TI Tryz.prog 22 1 24 := ti_of (by kernel_rfl)
theorem ti23 : TI Tryz.prog 23 1 2 := ti_of (by kernel_rfl)
theorem ti24 : TI Tryz.prog 24 1 4 := ti_of (by kernel_rfl)
theorem ti25 : TI Tryz.prog 25 1 24 := ti_of (by kernel_rfl)
theorem ti27 : TI Tryz.prog 27 5 48 := ti_of (by kernel_rfl)
theorem ti34 : TI Tryz.prog 34 1 24 := ti_of (by kernel_rfl)
theorem ti38 : TI Tryz.prog 38 5 40 := ti_of (by kernel_rfl)
theorem ti49 : TI Tryz.prog 49 3 24 := ti_of (by kernel_rfl)
theorem ti50 : TI Tryz.prog 50 1 8 := ti_of (by kernel_rfl)
theorem ti56 : TI Tryz.prog 56 11 12 := ti_of (by kernel_rfl)
theorem ti57 : TI Tryz.prog 57 1 24 := ti_of (by kernel_rfl)
theorem ti60 : TI Tryz.prog 60 5 32 := ti_of (by kernel_rfl)
theorem ti62 : TI Tryz.prog 62 21 152 := ti_of (by kernel_rfl)
theorem ti65 : TI Tryz.prog 65 3 56 := ti_of (by kernel_rfl)
theorem ti73 : TI Tryz.prog 73 24 176 := ti_of (by kernel_rfl)
theorem ti88 : TI Tryz.prog 88 1 24 := ti_of (by kernel_rfl)
theorem ti96 : TI Tryz.prog 96 1 24 := ti_of (by kernel_rfl)
theorem ti100 : TI Tryz.prog 100 2 24 := ti_of (by kernel_rfl)
theorem ti133 : TI Tryz.prog 133 1 8 := ti_of (by kernel_rfl)
theorem ti134 : TI Tryz.prog 134 3 24 := ti_of (by kernel_rfl)
theorem ti138 : TI Tryz.prog 138 1 8 := ti_of (by kernel_rfl)
theorem ti141 : TI Tryz.prog 141 4 56 := ti_of (by kernel_rfl)
theorem ti144 : TI Tryz.prog 144 1 8 := ti_of (by kernel_rfl)
theorem ti146 : TI Tryz.prog 146 2 32 := ti_of (by kernel_rfl)
theorem ti148 : TI Tryz.prog 148 1 16 := ti_of (by kernel_rfl)
theorem ti156 : TI Tryz.prog 156 2 24 := ti_of (by kernel_rfl)
theorem ti163 : TI Tryz.prog 163 2 24 := ti_of (by kernel_rfl)
theorem ti176 : TI Tryz.prog 176 2 24 := ti_of (by kernel_rfl)
theorem ti202 : TI Tryz.prog 202 1 8 := ti_of (by kernel_rfl)
theorem ti207 : TI Tryz.prog 207 3 24 := ti_of (by kernel_rfl)
theorem ti210 : TI Tryz.prog 210 1 16 := ti_of (by kernel_rfl)
theorem ti243 : TI Tryz.prog 243 2 24 := ti_of (by kernel_rfl)
theorem ti255 : TI Tryz.prog 255 4 16 := ti_of (by kernel_rfl)
theorem fd27_0 : FD Tryz.prog 27 0 0 := fd_of (by kernel_rfl)
theorem fd27_1 : FD Tryz.prog 27 1 1 := fd_of (by kernel_rfl)
theorem fd27_2 : FD Tryz.prog 27 2 2 := fd_of (by kernel_rfl)
theorem fd27_3 : FD Tryz.prog 27 3 3 := fd_of (by kernel_rfl)
theorem fd27_4 : FD Tryz.prog 27 4 4 := fd_of (by kernel_rfl)
theorem fd38_0 : FD Tryz.prog 38 0 0 := fd_of (by kernel_rfl)
theorem fd38_1 : FD Tryz.prog 38 1 1 := fd_of (by kernel_rfl)
theorem fd38_2 : FD Tryz.prog 38 2 2 := fd_of (by kernel_rfl)
theorem fd38_3 : FD Tryz.prog 38 3 3 := fd_of (by kernel_rfl)
theorem fd38_4 : FD Tryz.prog 38 4 4 := fd_of (by kernel_rfl)
theorem fd49_0 : FD Tryz.prog 49 0 0 := fd_of (by kernel_rfl)
theorem fd49_1 : FD Tryz.prog 49 1 1 := fd_of (by kernel_rfl)
theorem fd49_2 : FD Tryz.prog 49 2 2 := fd_of (by kernel_rfl)
theorem fd56_0 : FD Tryz.prog 56 0 0 := fd_of (by kernel_rfl)
theorem fd56_3 : FD Tryz.prog 56 3 3 := fd_of (by kernel_rfl)
theorem fd56_5 : FD Tryz.prog 56 5 5 := fd_of (by kernel_rfl)
theorem fd56_10 : FD Tryz.prog 56 10 10 := fd_of (by kernel_rfl)
theorem fd62_0 : FD Tryz.prog 62 0 0 := fd_of (by kernel_rfl)
theorem fd62_1 : FD Tryz.prog 62 1 11 := fd_of (by kernel_rfl)
theorem fd62_2 : FD Tryz.prog 62 2 12 := fd_of (by kernel_rfl)
theorem fd62_3 : FD Tryz.prog 62 3 13 := fd_of (by kernel_rfl)
theorem fd62_4 : FD Tryz.prog 62 4 14 := fd_of (by kernel_rfl)
theorem fd65_0 : FD Tryz.prog 65 0 0 := fd_of (by kernel_rfl)
theorem fd65_1 : FD Tryz.prog 65 1 1 := fd_of (by kernel_rfl)
theorem fd65_2 : FD Tryz.prog 65 2 2 := fd_of (by kernel_rfl)
theorem fd73_0 : FD Tryz.prog 73 0 0 := fd_of (by kernel_rfl)
theorem fd73_1 : FD Tryz.prog 73 1 21 := fd_of (by kernel_rfl)
theorem fd73_2 : FD Tryz.prog 73 2 22 := fd_of (by kernel_rfl)
theorem fd73_3 : FD Tryz.prog 73 3 23 := fd_of (by kernel_rfl)
theorem fd100_0 : FD Tryz.prog 100 0 0 := fd_of (by kernel_rfl)
theorem fd100_1 : FD Tryz.prog 100 1 1 := fd_of (by kernel_rfl)
theorem fd141_0 : FD Tryz.prog 141 0 0 := fd_of (by kernel_rfl)
theorem fd141_1 : FD Tryz.prog 141 1 1 := fd_of (by kernel_rfl)
theorem fd141_2 : FD Tryz.prog 141 2 2 := fd_of (by kernel_rfl)
theorem fd141_3 : FD Tryz.prog 141 3 3 := fd_of (by kernel_rfl)
theorem fd146_0 : FD Tryz.prog 146 0 0 := fd_of (by kernel_rfl)
theorem fd146_1 : FD Tryz.prog 146 1 1 := fd_of (by kernel_rfl)
theorem fd156_0 : FD Tryz.prog 156 0 0 := fd_of (by kernel_rfl)
theorem fd156_1 : FD Tryz.prog 156 1 1 := fd_of (by kernel_rfl)
theorem fd163_0 : FD Tryz.prog 163 0 0 := fd_of (by kernel_rfl)
theorem fd163_1 : FD Tryz.prog 163 1 1 := fd_of (by kernel_rfl)
theorem fd176_0 : FD Tryz.prog 176 0 0 := fd_of (by kernel_rfl)
theorem fd176_1 : FD Tryz.prog 176 1 1 := fd_of (by kernel_rfl)
theorem fd202_0 : FD Tryz.prog 202 0 0 := fd_of (by kernel_rfl)
theorem zv3 : ZV Tryz.prog 3 (Value.int IntKind.i64 0) := zv_of (by kernel_rfl)
theorem zv5 : ZV Tryz.prog 5 (Value.int IntKind.u8 0) := zv_of (by kernel_rfl)
theorem zv9 : ZV Tryz.prog 9 (Value.string (mk [])) := zv_of (by kernel_rfl)
theorem zv22 : ZV Tryz.prog 22 (Value.slice none 0 0) := zv_of (by kernel_rfl)
theorem zv27 : ZV Tryz.prog 27 (.agg #[Value.string (mk []), Value.int IntKind.u16 0, Value.int IntKind.u16 0, Value.int IntKind.u32 0, Value.slice none 0 0]) := zv_of (by kernel_rfl)
theorem zv38 : ZV Tryz.prog 38 (.agg #[Value.string (mk []), Value.int IntKind.u16 0, Value.int IntKind.u16 0, Value.int IntKind.u32 0, Value.string (mk [])]) := zv_of (by kernel_rfl)
theorem zv49 : ZV Tryz.prog 49 (.agg #[Value.string (mk []), Value.int IntKind.u16 0, Value.int IntKind.u16 0]) := zv_of (by kernel_rfl)
theorem zv56 : ZV Tryz.prog 56 (.agg #[Value.int IntKind.u16 0, Value.bool false, Value.int IntKind.u8 0, Value.bool false, Value.bool false, Value.bool false, Value.bool false, Value.bool false, Value.bool false, Value.bool false, Value.int IntKind.u8 0]) := zv_of (by kernel_rfl)
theorem zv62 : ZV Tryz.prog 62 (.agg #[Value.int IntKind.u16 0, Value.bool false, Value.int IntKind.u8 0, Value.bool false, Value.bool false, Value.bool false, Value.bool false, Value.bool false, Value.bool false, Value.bool false, Value.int IntKind.u8 0, Value.slice none 0 0, Value.slice none 0 0, Value.slice none 0 0, Value.slice none 0 0, Value.bool false, Value.int IntKind.u16 0, Value.int IntKind.u8 0, Value.int IntKind.u8 0, Value.int IntKind.u16 0, Value.slice none 0 0]) := zv_of (by kernel_rfl)
theorem zv65 : ZV Tryz.prog 65 (.agg #[Value.int IntKind.u8 0, Value.slice none 0 0, Value.slice none 0 0]) := zv_of (by kernel_rfl)
theorem zv73 : ZV Tryz.prog 73 (.agg #[Value.int IntKind.u16 0, Value.bool false, Value.int IntKind.u8 0, Value.bool false, Value.bool false, Value.bool false, Value.bool false, Value.bool false, Value.bool false, Value.bool false, Value.int IntKind.u8 0, Value.slice none 0 0, Value.slice none 0 0, Value.slice none 0 0, Value.slice none 0 0, Value.bool false, Value.int IntKind.u16 0, Value.int IntKind.u8 0, Value.int IntKind.u8 0, Value.int IntKind.u16 0, Value.slice none 0 0, Value.int IntKind.i64 0, Value.int IntKind.u32 0, Value.int IntKind.i64 0]) := zv_of (by kernel_rfl)
theorem zv100 : ZV Tryz.prog 100 (.agg #[Value.string (mk []), Value.bool false]) := zv_of (by kernel_rfl)
theorem zv134 : ZV Tryz.prog 134 (.agg #[Value.nilFunc, Value.nilFunc, Value.nilFunc]) := zv_of (by kernel_rfl)
theorem zv141 : ZV Tryz.prog 141 (.agg #[Value.pointer none, Value.string (mk []), Value.bool false, Value.slice none 0 0]) := zv_of (by kernel_rfl)
theorem zv146 : ZV Tryz.prog 146 (.agg #[Value.pointer none, Value.slice none 0 0]) := zv_of (by kernel_rfl)
theorem zv148 : ZV Tryz.prog 148 (Value.nilIface) := zv_of (by kernel_rfl)
theorem zv156 : ZV Tryz.prog 156 (.agg #[Value.string (mk []), Value.bool false]) := zv_of (by kernel_rfl)
theorem zv163 : ZV Tryz.prog 163 (.agg #[Value.string (mk []), Value.int IntKind.u16 0]) := zv_of (by kernel_rfl)
theorem zv176 : ZV Tryz.prog 176 (.agg #[Value.string (mk []), Value.int IntKind.i64 0]) := zv_of (by kernel_rfl)
theorem zv202 : ZV Tryz.prog 202 (.agg #[Value.int IntKind.i64 0]) := zv_of (by kernel_rfl)
theorem zv207 : ZV Tryz.prog 207 (.agg #[Value.pointer none, Value.pointer none, Value.int IntKind.u64 0]) := zv_of (by kernel_rfl)
theorem zv243 : ZV Tryz.prog 243 (.agg #[Value.int IntKind.u16 0, Value.string (mk [])]) := zv_of (by kernel_rfl)
theorem zv255 : ZV Tryz.prog 255 (.agg #[Value.int IntKind.i32 0, Value.int IntKind.i32 0, Value.int IntKind.i32 0, Value.int IntKind.i32 0]) := zv_of (by kernel_rfl)
theorem bd27 (w : World) : (Instr.build 27 #[]).run Tryz.prog w = .ok (.agg #[Value.string (mk []), Value.int IntKind.u16 0, Value.int IntKind.u16 0, Value.int IntKind.u32 0, Value.slice none 0 0]) w := by
  obtain ⟨i, hi, hz⟩ := zv27
  unfold Instr.build
  simp [zeroValue, typeInfo, hi, hz, run_underlying Tryz.underlying27, Instr.fill, cells_agg, SZ1_of (P := Tryz.prog) ti23, SZ1_of (P := Tryz.prog) ti24, SZ1_of (P := Tryz.prog) ti25, SZ1_of (P := Tryz.prog) ti9]
theorem bd27_0 (w : World) (u0 : Value) (h0 : u0.oneCell' = true) : (Instr.build 27 #[(0, u0)]).run Tryz.prog w = .ok (.agg #[u0, Value.int IntKind.u16 0, Value.int IntKind.u16 0, Value.int IntKind.u32 0, Value.slice none 0 0]) w := by
  obtain ⟨i, hi, hz⟩ := zv27
  unfold Instr.build
  simp [zeroValue, typeInfo, hi, hz, run_underlying Tryz.underlying27, Instr.fill, cells_agg, SZ1_of (P := Tryz.prog) ti23, SZ1_of (P := Tryz.prog) ti24, SZ1_of (P := Tryz.prog) ti25, SZ1_of (P := Tryz.prog) ti9, cells_one h0]
theorem bd27_0_1_2_3_4 (w : World) (u0 : Value) (u1 : Value) (u2 : Value) (u3 : Value) (u4 : Value) (h0 : u0.oneCell' = true) (h1 : u1.oneCell' = true) (h2 : u2.oneCell' = true) (h3 : u3.oneCell' = true) (h4 : u4.oneCell' = true) : (Instr.build 27 #[(0, u0), (1, u1), (2, u2), (3, u3), (4, u4)]).run Tryz.prog w = .ok (.agg #[u0, u1, u2, u3, u4]) w := by
  obtain ⟨i, hi, hz⟩ := zv27
  unfold Instr.build
  simp [zeroValue, typeInfo, hi, hz, run_underlying Tryz.underlying27, Instr.fill, cells_agg, SZ1_of (P := Tryz.prog) ti23, SZ1_of (P := Tryz.prog) ti24, SZ1_of (P := Tryz.prog) ti25, SZ1_of (P := Tryz.prog) ti9, cells_one h0, cells_one h1, cells_one h2, cells_one h3, cells_one h4]
theorem bd38_0_1_2_3_4 (w : World) (u0 : Value) (u1 : Value) (u2 : Value) (u3 : Value) (u4 : Value) (h0 : u0.oneCell' = true) (h1 : u1.oneCell' = true) (h2 : u2.oneCell' = true) (h3 : u3.oneCell' = true) (h4 : u4.oneCell' = true) : (Instr.build 38 #[(0, u0), (1, u1), (2, u2), (3, u3), (4, u4)]).run Tryz.prog w = .ok (.agg #[u0, u1, u2, u3, u4]) w := by
  obtain ⟨i, hi, hz⟩ := zv38
  unfold Instr.build
  simp [zeroValue, typeInfo, hi, hz, run_underlying Tryz.underlying38, Instr.fill, cells_agg, SZ1_of (P := Tryz.prog) ti23, SZ1_of (P := Tryz.prog) ti24, SZ1_of (P := Tryz.prog) ti9, cells_one h0, cells_one h1, cells_one h2, cells_one h3, cells_one h4]
theorem bd38_0_1_2_4 (w : World) (u0 : Value) (u1 : Value) (u2 : Value) (u4 : Value) (h0 : u0.oneCell' = true) (h1 : u1.oneCell' = true) (h2 : u2.oneCell' = true) (h4 : u4.oneCell' = true) : (Instr.build 38 #[(0, u0), (1, u1), (2, u2), (4, u4)]).run Tryz.prog w = .ok (.agg #[u0, u1, u2, Value.int IntKind.u32 0, u4]) w := by
  obtain ⟨i, hi, hz⟩ := zv38
  unfold Instr.build
  simp [zeroValue, typeInfo, hi, hz, run_underlying Tryz.underlying38, Instr.fill, cells_agg, SZ1_of (P := Tryz.prog) ti23, SZ1_of (P := Tryz.prog) ti24, SZ1_of (P := Tryz.prog) ti9, cells_one h0, cells_one h1, cells_one h2, cells_one h4]
theorem bd49_0_1_2 (w : World) (u0 : Value) (u1 : Value) (u2 : Value) (h0 : u0.oneCell' = true) (h1 : u1.oneCell' = true) (h2 : u2.oneCell' = true) : (Instr.build 49 #[(0, u0), (1, u1), (2, u2)]).run Tryz.prog w = .ok (.agg #[u0, u1, u2]) w := by
  obtain ⟨i, hi, hz⟩ := zv49
  unfold Instr.build
  simp [zeroValue, typeInfo, hi, hz, run_underlying Tryz.underlying49, Instr.fill, cells_agg, SZ1_of (P := Tryz.prog) ti23, SZ1_of (P := Tryz.prog) ti9, cells_one h0, cells_one h1, cells_one h2]
theorem bd49_1_2 (w : World) (u1 : Value) (u2 : Value) (h1 : u1.oneCell' = true) (h2 : u2.oneCell' = true) : (Instr.build 49 #[(1, u1), (2, u2)]).run Tryz.prog w = .ok (.agg #[Value.string (mk []), u1, u2]) w := by
  obtain ⟨i, hi, hz⟩ := zv49
  unfold Instr.build
  simp [zeroValue, typeInfo, hi, hz, run_underlying Tryz.underlying49, Instr.fill, cells_agg, SZ1_of (P := Tryz.prog) ti23, SZ1_of (P := Tryz.prog) ti9, cells_one h1, cells_one h2]
theorem bd56_10 (w : World) (u10 : Value) (h10 : u10.oneCell' = true) : (Instr.build 56 #[(10, u10)]).run Tryz.prog w = .ok (.agg #[Value.int IntKind.u16 0, Value.bool false, Value.int IntKind.u8 0, Value.bool false, Value.bool false, Value.bool false, Value.bool false, Value.bool false, Value.bool false, Value.bool false, u10]) w := by
  obtain ⟨i, hi, hz⟩ := zv56
  unfold Instr.build
  simp [zeroValue, typeInfo, hi, hz, run_underlying Tryz.underlying56, Instr.fill, cells_agg, SZ1_of (P := Tryz.prog) ti23, SZ1_of (P := Tryz.prog) ti4, SZ1_of (P := Tryz.prog) ti5, cells_one h10]
theorem bd65 (w : World) : (Instr.build 65 #[]).run Tryz.prog w = .ok (.agg #[Value.int IntKind.u8 0, Value.slice none 0 0, Value.slice none 0 0]) w := by
  obtain ⟨i, hi, hz⟩ := zv65
  unfold Instr.build
  simp [zeroValue, typeInfo, hi, hz, run_underlying Tryz.underlying65, Instr.fill, cells_agg, SZ1_of (P := Tryz.prog) ti22, SZ1_of (P := Tryz.prog) ti5]
theorem bd65_1 (w : World) (u1 : Value) (h1 : u1.oneCell' = true) : (Instr.build 65 #[(1, u1)]).run Tryz.prog w = .ok (.agg #[Value.int IntKind.u8 0, u1, Value.slice none 0 0]) w := by
  obtain ⟨i, hi, hz⟩ := zv65
  unfold Instr.build
  simp [zeroValue, typeInfo, hi, hz, run_underlying Tryz.underlying65, Instr.fill, cells_agg, SZ1_of (P := Tryz.prog) ti22, SZ1_of (P := Tryz.prog) ti5, cells_one h1]
theorem bd100_0 (w : World) (u0 : Value) (h0 : u0.oneCell' = true) : (Instr.build 100 #[(0, u0)]).run Tryz.prog w = .ok (.agg #[u0, Value.bool false]) w := by
  obtain ⟨i, hi, hz⟩ := zv100
  unfold Instr.build
  simp [zeroValue, typeInfo, hi, hz, run_underlying Tryz.underlying100, Instr.fill, cells_agg, SZ1_of (P := Tryz.prog) ti4, SZ1_of (P := Tryz.prog) ti9, cells_one h0]
theorem bd100_0_1 (w : World) (u0 : Value) (u1 : Value) (h0 : u0.oneCell' = true) (h1 : u1.oneCell' = true) : (Instr.build 100 #[(0, u0), (1, u1)]).run Tryz.prog w = .ok (.agg #[u0, u1]) w := by
  obtain ⟨i, hi, hz⟩ := zv100
  unfold Instr.build
  simp [zeroValue, typeInfo, hi, hz, run_underlying Tryz.underlying100, Instr.fill, cells_agg, SZ1_of (P := Tryz.prog) ti4, SZ1_of (P := Tryz.prog) ti9, cells_one h0, cells_one h1]
theorem bd134_0 (w : World) (u0 : Value) (h0 : u0.oneCell' = true) : (Instr.build 134 #[(0, u0)]).run Tryz.prog w = .ok (.agg #[u0, Value.nilFunc, Value.nilFunc]) w := by
  obtain ⟨i, hi, hz⟩ := zv134
  unfold Instr.build
  simp [zeroValue, typeInfo, hi, hz, run_underlying Tryz.underlying134, Instr.fill, cells_agg, SZ1_of (P := Tryz.prog) ti133, cells_one h0]
theorem bd134_0_1 (w : World) (u0 : Value) (u1 : Value) (h0 : u0.oneCell' = true) (h1 : u1.oneCell' = true) : (Instr.build 134 #[(0, u0), (1, u1)]).run Tryz.prog w = .ok (.agg #[u0, u1, Value.nilFunc]) w := by
  obtain ⟨i, hi, hz⟩ := zv134
  unfold Instr.build
  simp [zeroValue, typeInfo, hi, hz, run_underlying Tryz.underlying134, Instr.fill, cells_agg, SZ1_of (P := Tryz.prog) ti133, cells_one h0, cells_one h1]
theorem bd134_0_1_2 (w : World) (u0 : Value) (u1 : Value) (u2 : Value) (h0 : u0.oneCell' = true) (h1 : u1.oneCell' = true) (h2 : u2.oneCell' = true) : (Instr.build 134 #[(0, u0), (1, u1), (2, u2)]).run Tryz.prog w = .ok (.agg #[u0, u1, u2]) w := by
  obtain ⟨i, hi, hz⟩ := zv134
  unfold Instr.build
  simp [zeroValue, typeInfo, hi, hz, run_underlying Tryz.underlying134, Instr.fill, cells_agg, SZ1_of (P := Tryz.prog) ti133, cells_one h0, cells_one h1, cells_one h2]
theorem bd141_0_1_2 (w : World) (u0 : Value) (u1 : Value) (u2 : Value) (h0 : u0.oneCell' = true) (h1 : u1.oneCell' = true) (h2 : u2.oneCell' = true) : (Instr.build 141 #[(0, u0), (1, u1), (2, u2)]).run Tryz.prog w = .ok (.agg #[u0, u1, u2, Value.slice none 0 0]) w := by
  obtain ⟨i, hi, hz⟩ := zv141
  unfold Instr.build
  simp [zeroValue, typeInfo, hi, hz, run_underlying Tryz.underlying141, Instr.fill, cells_agg, SZ1_of (P := Tryz.prog) ti138, SZ1_of (P := Tryz.prog) ti4, SZ1_of (P := Tryz.prog) ti9, SZ1_of (P := Tryz.prog) ti96, cells_one h0, cells_one h1, cells_one h2]
theorem bd156_0 (w : World) (u0 : Value) (h0 : u0.oneCell' = true) : (Instr.build 156 #[(0, u0)]).run Tryz.prog w = .ok (.agg #[u0, Value.bool false]) w := by
  obtain ⟨i, hi, hz⟩ := zv156
  unfold Instr.build
  simp [zeroValue, typeInfo, hi, hz, run_underlying Tryz.underlying156, Instr.fill, cells_agg, SZ1_of (P := Tryz.prog) ti4, SZ1_of (P := Tryz.prog) ti9, cells_one h0]
theorem bd156_0_1 (w : World) (u0 : Value) (u1 : Value) (h0 : u0.oneCell' = true) (h1 : u1.oneCell' = true) : (Instr.build 156 #[(0, u0), (1, u1)]).run Tryz.prog w = .ok (.agg #[u0, u1]) w := by
  obtain ⟨i, hi, hz⟩ := zv156
  unfold Instr.build
  simp [zeroValue, typeInfo, hi, hz, run_underlying Tryz.underlying156, Instr.fill, cells_agg, SZ1_of (P := Tryz.prog) ti4, SZ1_of (P := Tryz.prog) ti9, cells_one h0, cells_one h1]
theorem bd163_0_1 (w : World) (u0 : Value) (u1 : Value) (h0 : u0.oneCell' = true) (h1 : u1.oneCell' = true) : (Instr.build 163 #[(0, u0), (1, u1)]).run Tryz.prog w = .ok (.agg #[u0, u1]) w := by
  obtain ⟨i, hi, hz⟩ := zv163
  unfold Instr.build
  simp [zeroValue, typeInfo, hi, hz, run_underlying Tryz.underlying163, Instr.fill, cells_agg, SZ1_of (P := Tryz.prog) ti23, SZ1_of (P := Tryz.prog) ti9, cells_one h0, cells_one h1]
theorem bd176_0 (w : World) (u0 : Value) (h0 : u0.oneCell' = true) : (Instr.build 176 #[(0, u0)]).run Tryz.prog w = .ok (.agg #[u0, Value.int IntKind.i64 0]) w := by
  obtain ⟨i, hi, hz⟩ := zv176
  unfold Instr.build
  simp [zeroValue, typeInfo, hi, hz, run_underlying Tryz.underlying176, Instr.fill, cells_agg, SZ1_of (P := Tryz.prog) ti3, SZ1_of (P := Tryz.prog) ti9, cells_one h0]
theorem bd202 (w : World) : (Instr.build 202 #[]).run Tryz.prog w = .ok (.agg #[Value.int IntKind.i64 0]) w := by
  obtain ⟨i, hi, hz⟩ := zv202
  unfold Instr.build
  simp [zeroValue, typeInfo, hi, hz, run_underlying Tryz.underlying202, Instr.fill, cells_agg, SZ1_of (P := Tryz.prog) ti50]
theorem bd202_0 (w : World) (u0 : Value) (h0 : u0.oneCell' = true) : (Instr.build 202 #[(0, u0)]).run Tryz.prog w = .ok (.agg #[u0]) w := by
  obtain ⟨i, hi, hz⟩ := zv202
  unfold Instr.build
  simp [zeroValue, typeInfo, hi, hz, run_underlying Tryz.underlying202, Instr.fill, cells_agg, SZ1_of (P := Tryz.prog) ti50, cells_one h0]
theorem fl3 : flat Tryz.prog 3 = true := by unfold flat; rw [Tryz.underlying3]
theorem fl4 : flat Tryz.prog 4 = true := by unfold flat; rw [Tryz.underlying4]
theorem fl5 : flat Tryz.prog 5 = true := by unfold flat; rw [Tryz.underlying5]
theorem fl9 : flat Tryz.prog 9 = true := by unfold flat; rw [Tryz.underlying9]
theorem fl22 : flat Tryz.prog 22 = true := by unfold flat; rw [Tryz.underlying22]
theorem fl23 : flat Tryz.prog 23 = true := by unfold flat; rw [Tryz.underlying23]
theorem fl24 : flat Tryz.prog 24 = true := by unfold flat; rw [Tryz.underlying24]
theorem fl25 : flat Tryz.prog 25 = true := by unfold flat; rw [Tryz.underlying25]
theorem fl34 : flat Tryz.prog 34 = true := by unfold flat; rw [Tryz.underlying34]
theorem fl50 : flat Tryz.prog 50 = true := by unfold flat; rw [Tryz.underlying50]
theorem fl57 : flat Tryz.prog 57 = true := by unfold flat; rw [Tryz.underlying57]
theorem fl88 : flat Tryz.prog 88 = true := by unfold flat; rw [Tryz.underlying88]
theorem fl96 : flat Tryz.prog 96 = true := by unfold flat; rw [Tryz.underlying96]
theorem fl138 : flat Tryz.prog 138 = true := by unfold flat; rw [Tryz.underlying138]
theorem fl144 : flat Tryz.prog 144 = true := by unfold flat; rw [Tryz.underlying144]
theorem fl148 : flat Tryz.prog 148 = true := by unfold flat; rw [Tryz.underlying148]
theorem fl210 : flat Tryz.prog 210 = true := by unfold flat; rw [Tryz.underlying210]
end Go.Proofs.YtcelgjabccgnmaaGreatDoor
