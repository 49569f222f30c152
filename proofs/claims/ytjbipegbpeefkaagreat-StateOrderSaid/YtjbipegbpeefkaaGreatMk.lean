/- The functions of the program that are slices.Clone. The intermediate code is what the program says. The intermediate code is what the program says. The intermediate code is what the program says. The intermediate code is what the program says. The intermediate code is what the program says. The intermediate code is what the program says. The table of the program. No statement of the seat is proved here. -/
import Derived.Test.YtjbipegbpeefkaaGreatMd
import Derived.Test.YtjbipegbpeefkaaGreatProg
import Derived.KernelRfl
import Derived.Test.YtjbipegbpeefkaaGreatMi

set_option maxRecDepth 100000
/-! ## Ck0 -/
namespace Go.Ab
def clones : Clones := [(67, 72), (68, 115), (69, 22), (70, 3)]
theorem cl67 : ∃ inf z, IsClone Go.Proofs.Tryz.prog 67 72 inf z := isClone_of (t := 25) (tb := 4) Go.Proofs.Tryz.func67 rfl (by kernel_rfl) rfl rfl (by kernel_rfl) (by kernel_rfl)
theorem cl68 : ∃ inf z, IsClone Go.Proofs.Tryz.prog 68 115 inf z := isClone_of (t := 27) (tb := 4) Go.Proofs.Tryz.func68 rfl (by kernel_rfl) rfl rfl (by kernel_rfl) (by kernel_rfl)
theorem cl69 : ∃ inf z, IsClone Go.Proofs.Tryz.prog 69 22 inf z := isClone_of (t := 74) (tb := 4) Go.Proofs.Tryz.func69 rfl (by kernel_rfl) rfl rfl (by kernel_rfl) (by kernel_rfl)
theorem cl70 : ∃ inf z, IsClone Go.Proofs.Tryz.prog 70 3 inf z := isClone_of (t := 34) (tb := 4) Go.Proofs.Tryz.func70 rfl (by kernel_rfl) rfl rfl (by kernel_rfl) (by kernel_rfl)
theorem clonesOk : ClonesOk Go.Proofs.Tryz.prog clones := by
  intro p hp
  simp only [clones, List.mem_cons, List.not_mem_nil, or_false] at hp
  rcases hp with rfl | rfl | rfl | rfl
  · exact cl67
  · exact cl68
  · exact cl69
  · exact cl70
end Go.Ab

/-! ## Ck1 -/
namespace Go.Ab
theorem ck3 : TrF Go.Proofs.Tryz.prog 3 ir3 := chkF_sound _ clones clonesOk Go.Proofs.Tryz.func3 (by kernel_rfl)
theorem ck4 : TrF Go.Proofs.Tryz.prog 4 ir4 := chkF_sound _ clones clonesOk Go.Proofs.Tryz.func4 (by kernel_rfl)
theorem ck5 : TrF Go.Proofs.Tryz.prog 5 ir5 := chkF_sound _ clones clonesOk Go.Proofs.Tryz.func5 (by kernel_rfl)
theorem ck6 : TrF Go.Proofs.Tryz.prog 6 ir6 := chkF_sound _ clones clonesOk Go.Proofs.Tryz.func6 (by kernel_rfl)
theorem ck7 : TrF Go.Proofs.Tryz.prog 7 ir7 := chkF_sound _ clones clonesOk Go.Proofs.Tryz.func7 (by kernel_rfl)
theorem ck8 : TrF Go.Proofs.Tryz.prog 8 ir8 := chkF_sound _ clones clonesOk Go.Proofs.Tryz.func8 (by kernel_rfl)
theorem ck9 : TrF Go.Proofs.Tryz.prog 9 ir9 := chkF_sound _ clones clonesOk Go.Proofs.Tryz.func9 (by kernel_rfl)
theorem ck10 : TrF Go.Proofs.Tryz.prog 10 ir10 := chkF_sound _ clones clonesOk Go.Proofs.Tryz.func10 (by kernel_rfl)
theorem ck11 : TrF Go.Proofs.Tryz.prog 11 ir11 := chkF_sound _ clones clonesOk Go.Proofs.Tryz.func11 (by kernel_rfl)
theorem ck12 : TrF Go.Proofs.Tryz.prog 12 ir12 := chkF_sound _ clones clonesOk Go.Proofs.Tryz.func12 (by kernel_rfl)
theorem ck13 : TrF Go.Proofs.Tryz.prog 13 ir13 := chkF_sound _ clones clonesOk Go.Proofs.Tryz.func13 (by kernel_rfl)
theorem ck14 : TrF Go.Proofs.Tryz.prog 14 ir14 := chkF_sound _ clones clonesOk Go.Proofs.Tryz.func14 (by kernel_rfl)
theorem ck15 : TrF Go.Proofs.Tryz.prog 15 ir15 := chkF_sound _ clones clonesOk Go.Proofs.Tryz.func15 (by kernel_rfl)
theorem ck16 : TrF Go.Proofs.Tryz.prog 16 ir16 := chkF_sound _ clones clonesOk Go.Proofs.Tryz.func16 (by kernel_rfl)
theorem ck17 : TrF Go.Proofs.Tryz.prog 17 ir17 := chkF_sound _ clones clonesOk Go.Proofs.Tryz.func17 (by kernel_rfl)
theorem ck18 : TrF Go.Proofs.Tryz.prog 18 ir18 := chkF_sound _ clones clonesOk Go.Proofs.Tryz.func18 (by kernel_rfl)
theorem ck19 : TrF Go.Proofs.Tryz.prog 19 ir19 := chkF_sound _ clones clonesOk Go.Proofs.Tryz.func19 (by kernel_rfl)
theorem ck20 : TrF Go.Proofs.Tryz.prog 20 ir20 := chkF_sound _ clones clonesOk Go.Proofs.Tryz.func20 (by kernel_rfl)
theorem ck21 : TrF Go.Proofs.Tryz.prog 21 ir21 := chkF_sound _ clones clonesOk Go.Proofs.Tryz.func21 (by kernel_rfl)
theorem ck22 : TrF Go.Proofs.Tryz.prog 22 ir22 := chkF_sound _ clones clonesOk Go.Proofs.Tryz.func22 (by kernel_rfl)
theorem ck23 : TrF Go.Proofs.Tryz.prog 23 ir23 := chkF_sound _ clones clonesOk Go.Proofs.Tryz.func23 (by kernel_rfl)
theorem ck24 : TrF Go.Proofs.Tryz.prog 24 ir24 := chkF_sound _ clones clonesOk Go.Proofs.Tryz.func24 (by kernel_rfl)
theorem ck25 : TrF Go.Proofs.Tryz.prog 25 ir25 := chkF_sound _ clones clonesOk Go.Proofs.Tryz.func25 (by kernel_rfl)
theorem ck26 : TrF Go.Proofs.Tryz.prog 26 ir26 := chkF_sound _ clones clonesOk Go.Proofs.Tryz.func26 (by kernel_rfl)
theorem ck27 : TrF Go.Proofs.Tryz.prog 27 ir27 := chkF_sound _ clones clonesOk Go.Proofs.Tryz.func27 (by kernel_rfl)
theorem ck28 : TrF Go.Proofs.Tryz.prog 28 ir28 := chkF_sound _ clones clonesOk Go.Proofs.Tryz.func28 (by kernel_rfl)
theorem ck29 : TrF Go.Proofs.Tryz.prog 29 ir29 := chkF_sound _ clones clonesOk Go.Proofs.Tryz.func29 (by kernel_rfl)
theorem ck30 : TrF Go.Proofs.Tryz.prog 30 ir30 := chkF_sound _ clones clonesOk Go.Proofs.Tryz.func30 (by kernel_rfl)
theorem ck31 : TrF Go.Proofs.Tryz.prog 31 ir31 := chkF_sound _ clones clonesOk Go.Proofs.Tryz.func31 (by kernel_rfl)
theorem ck32 : TrF Go.Proofs.Tryz.prog 32 ir32 := chkF_sound _ clones clonesOk Go.Proofs.Tryz.func32 (by kernel_rfl)
end Go.Ab

/-! ## Ck2 -/
namespace Go.Ab
theorem ck33 : TrF Go.Proofs.Tryz.prog 33 ir33 := chkF_sound _ clones clonesOk Go.Proofs.Tryz.func33 (by kernel_rfl)
theorem ck34 : TrF Go.Proofs.Tryz.prog 34 ir34 := chkF_sound _ clones clonesOk Go.Proofs.Tryz.func34 (by kernel_rfl)
theorem ck35 : TrF Go.Proofs.Tryz.prog 35 ir35 := chkF_sound _ clones clonesOk Go.Proofs.Tryz.func35 (by kernel_rfl)
theorem ck36 : TrF Go.Proofs.Tryz.prog 36 ir36 := chkF_sound _ clones clonesOk Go.Proofs.Tryz.func36 (by kernel_rfl)
theorem ck37 : TrF Go.Proofs.Tryz.prog 37 ir37 := chkF_sound _ clones clonesOk Go.Proofs.Tryz.func37 (by kernel_rfl)
theorem ck38 : TrF Go.Proofs.Tryz.prog 38 ir38 := chkF_sound _ clones clonesOk Go.Proofs.Tryz.func38 (by kernel_rfl)
theorem ck39 : TrF Go.Proofs.Tryz.prog 39 ir39 := chkF_sound _ clones clonesOk Go.Proofs.Tryz.func39 (by kernel_rfl)
theorem ck40 : TrF Go.Proofs.Tryz.prog 40 ir40 := chkF_sound _ clones clonesOk Go.Proofs.Tryz.func40 (by kernel_rfl)
theorem ck41 : TrF Go.Proofs.Tryz.prog 41 ir41 := chkF_sound _ clones clonesOk Go.Proofs.Tryz.func41 (by kernel_rfl)
theorem ck42 : TrF Go.Proofs.Tryz.prog 42 ir42 := chkF_sound _ clones clonesOk Go.Proofs.Tryz.func42 (by kernel_rfl)
theorem ck43 : TrF Go.Proofs.Tryz.prog 43 ir43 := chkF_sound _ clones clonesOk Go.Proofs.Tryz.func43 (by kernel_rfl)
theorem ck44 : TrF Go.Proofs.Tryz.prog 44 ir44 := chkF_sound _ clones clonesOk Go.Proofs.Tryz.func44 (by kernel_rfl)
theorem ck45 : TrF Go.Proofs.Tryz.prog 45 ir45 := chkF_sound _ clones clonesOk Go.Proofs.Tryz.func45 (by kernel_rfl)
theorem ck46 : TrF Go.Proofs.Tryz.prog 46 ir46 := chkF_sound _ clones clonesOk Go.Proofs.Tryz.func46 (by kernel_rfl)
theorem ck47 : TrF Go.Proofs.Tryz.prog 47 ir47 := chkF_sound _ clones clonesOk Go.Proofs.Tryz.func47 (by kernel_rfl)
theorem ck48 : TrF Go.Proofs.Tryz.prog 48 ir48 := chkF_sound _ clones clonesOk Go.Proofs.Tryz.func48 (by kernel_rfl)
theorem ck49 : TrF Go.Proofs.Tryz.prog 49 ir49 := chkF_sound _ clones clonesOk Go.Proofs.Tryz.func49 (by kernel_rfl)
theorem ck50 : TrF Go.Proofs.Tryz.prog 50 ir50 := chkF_sound _ clones clonesOk Go.Proofs.Tryz.func50 (by kernel_rfl)
theorem ck51 : TrF Go.Proofs.Tryz.prog 51 ir51 := chkF_sound _ clones clonesOk Go.Proofs.Tryz.func51 (by kernel_rfl)
theorem ck52 : TrF Go.Proofs.Tryz.prog 52 ir52 := chkF_sound _ clones clonesOk Go.Proofs.Tryz.func52 (by kernel_rfl)
theorem ck53 : TrF Go.Proofs.Tryz.prog 53 ir53 := chkF_sound _ clones clonesOk Go.Proofs.Tryz.func53 (by kernel_rfl)
theorem ck54 : TrF Go.Proofs.Tryz.prog 54 ir54 := chkF_sound _ clones clonesOk Go.Proofs.Tryz.func54 (by kernel_rfl)
theorem ck55 : TrF Go.Proofs.Tryz.prog 55 ir55 := chkF_sound _ clones clonesOk Go.Proofs.Tryz.func55 (by kernel_rfl)
theorem ck56 : TrF Go.Proofs.Tryz.prog 56 ir56 := chkF_sound _ clones clonesOk Go.Proofs.Tryz.func56 (by kernel_rfl)
theorem ck57 : TrF Go.Proofs.Tryz.prog 57 ir57 := chkF_sound _ clones clonesOk Go.Proofs.Tryz.func57 (by kernel_rfl)
theorem ck58 : TrF Go.Proofs.Tryz.prog 58 ir58 := chkF_sound _ clones clonesOk Go.Proofs.Tryz.func58 (by kernel_rfl)
theorem ck59 : TrF Go.Proofs.Tryz.prog 59 ir59 := chkF_sound _ clones clonesOk Go.Proofs.Tryz.func59 (by kernel_rfl)
theorem ck60 : TrF Go.Proofs.Tryz.prog 60 ir60 := chkF_sound _ clones clonesOk Go.Proofs.Tryz.func60 (by kernel_rfl)
theorem ck61 : TrF Go.Proofs.Tryz.prog 61 ir61 := chkF_sound _ clones clonesOk Go.Proofs.Tryz.func61 (by kernel_rfl)
theorem ck62 : TrF Go.Proofs.Tryz.prog 62 ir62 := chkF_sound _ clones clonesOk Go.Proofs.Tryz.func62 (by kernel_rfl)
end Go.Ab

/-! ## Ck3 -/
namespace Go.Ab
theorem ck63 : TrF Go.Proofs.Tryz.prog 63 ir63 := chkF_sound _ clones clonesOk Go.Proofs.Tryz.func63 (by kernel_rfl)
theorem ck64 : TrF Go.Proofs.Tryz.prog 64 ir64 := chkF_sound _ clones clonesOk Go.Proofs.Tryz.func64 (by kernel_rfl)
theorem ck65 : TrF Go.Proofs.Tryz.prog 65 ir65 := chkF_sound _ clones clonesOk Go.Proofs.Tryz.func65 (by kernel_rfl)
theorem ck66 : TrF Go.Proofs.Tryz.prog 66 ir66 := chkF_sound _ clones clonesOk Go.Proofs.Tryz.func66 (by kernel_rfl)
theorem ck71 : TrF Go.Proofs.Tryz.prog 71 ir71 := chkF_sound _ clones clonesOk Go.Proofs.Tryz.func71 (by kernel_rfl)
theorem ck72 : TrF Go.Proofs.Tryz.prog 72 ir72 := chkF_sound _ clones clonesOk Go.Proofs.Tryz.func72 (by kernel_rfl)
theorem ck73 : TrF Go.Proofs.Tryz.prog 73 ir73 := chkF_sound _ clones clonesOk Go.Proofs.Tryz.func73 (by kernel_rfl)
theorem ck74 : TrF Go.Proofs.Tryz.prog 74 ir74 := chkF_sound _ clones clonesOk Go.Proofs.Tryz.func74 (by kernel_rfl)
theorem ck75 : TrF Go.Proofs.Tryz.prog 75 ir75 := chkF_sound _ clones clonesOk Go.Proofs.Tryz.func75 (by kernel_rfl)
theorem ck76 : TrF Go.Proofs.Tryz.prog 76 ir76 := chkF_sound _ clones clonesOk Go.Proofs.Tryz.func76 (by kernel_rfl)
theorem ck77 : TrF Go.Proofs.Tryz.prog 77 ir77 := chkF_sound _ clones clonesOk Go.Proofs.Tryz.func77 (by kernel_rfl)
theorem ck78 : TrF Go.Proofs.Tryz.prog 78 ir78 := chkF_sound _ clones clonesOk Go.Proofs.Tryz.func78 (by kernel_rfl)
theorem ck79 : TrF Go.Proofs.Tryz.prog 79 ir79 := chkF_sound _ clones clonesOk Go.Proofs.Tryz.func79 (by kernel_rfl)
theorem ck80 : TrF Go.Proofs.Tryz.prog 80 ir80 := chkF_sound _ clones clonesOk Go.Proofs.Tryz.func80 (by kernel_rfl)
theorem ck81 : TrF Go.Proofs.Tryz.prog 81 ir81 := chkF_sound _ clones clonesOk Go.Proofs.Tryz.func81 (by kernel_rfl)
theorem ck82 : TrF Go.Proofs.Tryz.prog 82 ir82 := chkF_sound _ clones clonesOk Go.Proofs.Tryz.func82 (by kernel_rfl)
theorem ck83 : TrF Go.Proofs.Tryz.prog 83 ir83 := chkF_sound _ clones clonesOk Go.Proofs.Tryz.func83 (by kernel_rfl)
theorem ck84 : TrF Go.Proofs.Tryz.prog 84 ir84 := chkF_sound _ clones clonesOk Go.Proofs.Tryz.func84 (by kernel_rfl)
theorem ck85 : TrF Go.Proofs.Tryz.prog 85 ir85 := chkF_sound _ clones clonesOk Go.Proofs.Tryz.func85 (by kernel_rfl)
theorem ck86 : TrF Go.Proofs.Tryz.prog 86 ir86 := chkF_sound _ clones clonesOk Go.Proofs.Tryz.func86 (by kernel_rfl)
theorem ck87 : TrF Go.Proofs.Tryz.prog 87 ir87 := chkF_sound _ clones clonesOk Go.Proofs.Tryz.func87 (by kernel_rfl)
theorem ck88 : TrF Go.Proofs.Tryz.prog 88 ir88 := chkF_sound _ clones clonesOk Go.Proofs.Tryz.func88 (by kernel_rfl)
theorem ck89 : TrF Go.Proofs.Tryz.prog 89 ir89 := chkF_sound _ clones clonesOk Go.Proofs.Tryz.func89 (by kernel_rfl)
theorem ck90 : TrF Go.Proofs.Tryz.prog 90 ir90 := chkF_sound _ clones clonesOk Go.Proofs.Tryz.func90 (by kernel_rfl)
theorem ck91 : TrF Go.Proofs.Tryz.prog 91 ir91 := chkF_sound _ clones clonesOk Go.Proofs.Tryz.func91 (by kernel_rfl)
theorem ck92 : TrF Go.Proofs.Tryz.prog 92 ir92 := chkF_sound _ clones clonesOk Go.Proofs.Tryz.func92 (by kernel_rfl)
theorem ck93 : TrF Go.Proofs.Tryz.prog 93 ir93 := chkF_sound _ clones clonesOk Go.Proofs.Tryz.func93 (by kernel_rfl)
theorem ck94 : TrF Go.Proofs.Tryz.prog 94 ir94 := chkF_sound _ clones clonesOk Go.Proofs.Tryz.func94 (by kernel_rfl)
theorem ck95 : TrF Go.Proofs.Tryz.prog 95 ir95 := chkF_sound _ clones clonesOk Go.Proofs.Tryz.func95 (by kernel_rfl)
theorem ck96 : TrF Go.Proofs.Tryz.prog 96 ir96 := chkF_sound _ clones clonesOk Go.Proofs.Tryz.func96 (by kernel_rfl)
end Go.Ab

/-! ## Ck4 -/
namespace Go.Ab
theorem ck97 : TrF Go.Proofs.Tryz.prog 97 ir97 := chkF_sound _ clones clonesOk Go.Proofs.Tryz.func97 (by kernel_rfl)
theorem ck98 : TrF Go.Proofs.Tryz.prog 98 ir98 := chkF_sound _ clones clonesOk Go.Proofs.Tryz.func98 (by kernel_rfl)
theorem ck99 : TrF Go.Proofs.Tryz.prog 99 ir99 := chkF_sound _ clones clonesOk Go.Proofs.Tryz.func99 (by kernel_rfl)
theorem ck100 : TrF Go.Proofs.Tryz.prog 100 ir100 := chkF_sound _ clones clonesOk Go.Proofs.Tryz.func100 (by kernel_rfl)
theorem ck101 : TrF Go.Proofs.Tryz.prog 101 ir101 := chkF_sound _ clones clonesOk Go.Proofs.Tryz.func101 (by kernel_rfl)
theorem ck102 : TrF Go.Proofs.Tryz.prog 102 ir102 := chkF_sound _ clones clonesOk Go.Proofs.Tryz.func102 (by kernel_rfl)
theorem ck103 : TrF Go.Proofs.Tryz.prog 103 ir103 := chkF_sound _ clones clonesOk Go.Proofs.Tryz.func103 (by kernel_rfl)
theorem ck104 : TrF Go.Proofs.Tryz.prog 104 ir104 := chkF_sound _ clones clonesOk Go.Proofs.Tryz.func104 (by kernel_rfl)
theorem ck105 : TrF Go.Proofs.Tryz.prog 105 ir105 := chkF_sound _ clones clonesOk Go.Proofs.Tryz.func105 (by kernel_rfl)
theorem ck106 : TrF Go.Proofs.Tryz.prog 106 ir106 := chkF_sound _ clones clonesOk Go.Proofs.Tryz.func106 (by kernel_rfl)
theorem ck107 : TrF Go.Proofs.Tryz.prog 107 ir107 := chkF_sound _ clones clonesOk Go.Proofs.Tryz.func107 (by kernel_rfl)
theorem ck108 : TrF Go.Proofs.Tryz.prog 108 ir108 := chkF_sound _ clones clonesOk Go.Proofs.Tryz.func108 (by kernel_rfl)
theorem ck109 : TrF Go.Proofs.Tryz.prog 109 ir109 := chkF_sound _ clones clonesOk Go.Proofs.Tryz.func109 (by kernel_rfl)
theorem ck110 : TrF Go.Proofs.Tryz.prog 110 ir110 := chkF_sound _ clones clonesOk Go.Proofs.Tryz.func110 (by kernel_rfl)
theorem ck111 : TrF Go.Proofs.Tryz.prog 111 ir111 := chkF_sound _ clones clonesOk Go.Proofs.Tryz.func111 (by kernel_rfl)
theorem ck112 : TrF Go.Proofs.Tryz.prog 112 ir112 := chkF_sound _ clones clonesOk Go.Proofs.Tryz.func112 (by kernel_rfl)
theorem ck113 : TrF Go.Proofs.Tryz.prog 113 ir113 := chkF_sound _ clones clonesOk Go.Proofs.Tryz.func113 (by kernel_rfl)
theorem ck114 : TrF Go.Proofs.Tryz.prog 114 ir114 := chkF_sound _ clones clonesOk Go.Proofs.Tryz.func114 (by kernel_rfl)
theorem ck115 : TrF Go.Proofs.Tryz.prog 115 ir115 := chkF_sound _ clones clonesOk Go.Proofs.Tryz.func115 (by kernel_rfl)
theorem ck116 : TrF Go.Proofs.Tryz.prog 116 ir116 := chkF_sound _ clones clonesOk Go.Proofs.Tryz.func116 (by kernel_rfl)
theorem ck117 : TrF Go.Proofs.Tryz.prog 117 ir117 := chkF_sound _ clones clonesOk Go.Proofs.Tryz.func117 (by kernel_rfl)
theorem ck118 : TrF Go.Proofs.Tryz.prog 118 ir118 := chkF_sound _ clones clonesOk Go.Proofs.Tryz.func118 (by kernel_rfl)
theorem ck119 : TrF Go.Proofs.Tryz.prog 119 ir119 := chkF_sound _ clones clonesOk Go.Proofs.Tryz.func119 (by kernel_rfl)
theorem ck120 : TrF Go.Proofs.Tryz.prog 120 ir120 := chkF_sound _ clones clonesOk Go.Proofs.Tryz.func120 (by kernel_rfl)
theorem ck121 : TrF Go.Proofs.Tryz.prog 121 ir121 := chkF_sound _ clones clonesOk Go.Proofs.Tryz.func121 (by kernel_rfl)
theorem ck122 : TrF Go.Proofs.Tryz.prog 122 ir122 := chkF_sound _ clones clonesOk Go.Proofs.Tryz.func122 (by kernel_rfl)
theorem ck123 : TrF Go.Proofs.Tryz.prog 123 ir123 := chkF_sound _ clones clonesOk Go.Proofs.Tryz.func123 (by kernel_rfl)
theorem ck124 : TrF Go.Proofs.Tryz.prog 124 ir124 := chkF_sound _ clones clonesOk Go.Proofs.Tryz.func124 (by kernel_rfl)
theorem ck125 : TrF Go.Proofs.Tryz.prog 125 ir125 := chkF_sound _ clones clonesOk Go.Proofs.Tryz.func125 (by kernel_rfl)
theorem ck126 : TrF Go.Proofs.Tryz.prog 126 ir126 := chkF_sound _ clones clonesOk Go.Proofs.Tryz.func126 (by kernel_rfl)
end Go.Ab

/-! ## Ck5 -/
namespace Go.Ab
theorem ck127 : TrF Go.Proofs.Tryz.prog 127 ir127 := chkF_sound _ clones clonesOk Go.Proofs.Tryz.func127 (by kernel_rfl)
theorem ck128 : TrF Go.Proofs.Tryz.prog 128 ir128 := chkF_sound _ clones clonesOk Go.Proofs.Tryz.func128 (by kernel_rfl)
theorem ck129 : TrF Go.Proofs.Tryz.prog 129 ir129 := chkF_sound _ clones clonesOk Go.Proofs.Tryz.func129 (by kernel_rfl)
theorem ck130 : TrF Go.Proofs.Tryz.prog 130 ir130 := chkF_sound _ clones clonesOk Go.Proofs.Tryz.func130 (by kernel_rfl)
theorem ck131 : TrF Go.Proofs.Tryz.prog 131 ir131 := chkF_sound _ clones clonesOk Go.Proofs.Tryz.func131 (by kernel_rfl)
theorem ck132 : TrF Go.Proofs.Tryz.prog 132 ir132 := chkF_sound _ clones clonesOk Go.Proofs.Tryz.func132 (by kernel_rfl)
theorem ck133 : TrF Go.Proofs.Tryz.prog 133 ir133 := chkF_sound _ clones clonesOk Go.Proofs.Tryz.func133 (by kernel_rfl)
theorem ck134 : TrF Go.Proofs.Tryz.prog 134 ir134 := chkF_sound _ clones clonesOk Go.Proofs.Tryz.func134 (by kernel_rfl)
theorem ck135 : TrF Go.Proofs.Tryz.prog 135 ir135 := chkF_sound _ clones clonesOk Go.Proofs.Tryz.func135 (by kernel_rfl)
theorem ck136 : TrF Go.Proofs.Tryz.prog 136 ir136 := chkF_sound _ clones clonesOk Go.Proofs.Tryz.func136 (by kernel_rfl)
theorem ck137 : TrF Go.Proofs.Tryz.prog 137 ir137 := chkF_sound _ clones clonesOk Go.Proofs.Tryz.func137 (by kernel_rfl)
theorem ck138 : TrF Go.Proofs.Tryz.prog 138 ir138 := chkF_sound _ clones clonesOk Go.Proofs.Tryz.func138 (by kernel_rfl)
theorem ck139 : TrF Go.Proofs.Tryz.prog 139 ir139 := chkF_sound _ clones clonesOk Go.Proofs.Tryz.func139 (by kernel_rfl)
theorem ck140 : TrF Go.Proofs.Tryz.prog 140 ir140 := chkF_sound _ clones clonesOk Go.Proofs.Tryz.func140 (by kernel_rfl)
theorem ck141 : TrF Go.Proofs.Tryz.prog 141 ir141 := chkF_sound _ clones clonesOk Go.Proofs.Tryz.func141 (by kernel_rfl)
theorem ck142 : TrF Go.Proofs.Tryz.prog 142 ir142 := chkF_sound _ clones clonesOk Go.Proofs.Tryz.func142 (by kernel_rfl)
theorem ck143 : TrF Go.Proofs.Tryz.prog 143 ir143 := chkF_sound _ clones clonesOk Go.Proofs.Tryz.func143 (by kernel_rfl)
theorem ck144 : TrF Go.Proofs.Tryz.prog 144 ir144 := chkF_sound _ clones clonesOk Go.Proofs.Tryz.func144 (by kernel_rfl)
theorem ck145 : TrF Go.Proofs.Tryz.prog 145 ir145 := chkF_sound _ clones clonesOk Go.Proofs.Tryz.func145 (by kernel_rfl)
theorem ck146 : TrF Go.Proofs.Tryz.prog 146 ir146 := chkF_sound _ clones clonesOk Go.Proofs.Tryz.func146 (by kernel_rfl)
theorem ck147 : TrF Go.Proofs.Tryz.prog 147 ir147 := chkF_sound _ clones clonesOk Go.Proofs.Tryz.func147 (by kernel_rfl)
theorem ck148 : TrF Go.Proofs.Tryz.prog 148 ir148 := chkF_sound _ clones clonesOk Go.Proofs.Tryz.func148 (by kernel_rfl)
theorem ck149 : TrF Go.Proofs.Tryz.prog 149 ir149 := chkF_sound _ clones clonesOk Go.Proofs.Tryz.func149 (by kernel_rfl)
theorem ck150 : TrF Go.Proofs.Tryz.prog 150 ir150 := chkF_sound _ clones clonesOk Go.Proofs.Tryz.func150 (by kernel_rfl)
theorem ck151 : TrF Go.Proofs.Tryz.prog 151 ir151 := chkF_sound _ clones clonesOk Go.Proofs.Tryz.func151 (by kernel_rfl)
theorem ck152 : TrF Go.Proofs.Tryz.prog 152 ir152 := chkF_sound _ clones clonesOk Go.Proofs.Tryz.func152 (by kernel_rfl)
theorem ck153 : TrF Go.Proofs.Tryz.prog 153 ir153 := chkF_sound _ clones clonesOk Go.Proofs.Tryz.func153 (by kernel_rfl)
theorem ck154 : TrF Go.Proofs.Tryz.prog 154 ir154 := chkF_sound _ clones clonesOk Go.Proofs.Tryz.func154 (by kernel_rfl)
theorem ck155 : TrF Go.Proofs.Tryz.prog 155 ir155 := chkF_sound _ clones clonesOk Go.Proofs.Tryz.func155 (by kernel_rfl)
theorem ck156 : TrF Go.Proofs.Tryz.prog 156 ir156 := chkF_sound _ clones clonesOk Go.Proofs.Tryz.func156 (by kernel_rfl)
end Go.Ab

/-! ## Ck6 -/
namespace Go.Ab
theorem ck157 : TrF Go.Proofs.Tryz.prog 157 ir157 := chkF_sound _ clones clonesOk Go.Proofs.Tryz.func157 (by kernel_rfl)
theorem ck158 : TrF Go.Proofs.Tryz.prog 158 ir158 := chkF_sound _ clones clonesOk Go.Proofs.Tryz.func158 (by kernel_rfl)
theorem ck159 : TrF Go.Proofs.Tryz.prog 159 ir159 := chkF_sound _ clones clonesOk Go.Proofs.Tryz.func159 (by kernel_rfl)
theorem ck160 : TrF Go.Proofs.Tryz.prog 160 ir160 := chkF_sound _ clones clonesOk Go.Proofs.Tryz.func160 (by kernel_rfl)
theorem ck161 : TrF Go.Proofs.Tryz.prog 161 ir161 := chkF_sound _ clones clonesOk Go.Proofs.Tryz.func161 (by kernel_rfl)
theorem ck162 : TrF Go.Proofs.Tryz.prog 162 ir162 := chkF_sound _ clones clonesOk Go.Proofs.Tryz.func162 (by kernel_rfl)
theorem ck163 : TrF Go.Proofs.Tryz.prog 163 ir163 := chkF_sound _ clones clonesOk Go.Proofs.Tryz.func163 (by kernel_rfl)
theorem ck164 : TrF Go.Proofs.Tryz.prog 164 ir164 := chkF_sound _ clones clonesOk Go.Proofs.Tryz.func164 (by kernel_rfl)
theorem ck165 : TrF Go.Proofs.Tryz.prog 165 ir165 := chkF_sound _ clones clonesOk Go.Proofs.Tryz.func165 (by kernel_rfl)
theorem ck166 : TrF Go.Proofs.Tryz.prog 166 ir166 := chkF_sound _ clones clonesOk Go.Proofs.Tryz.func166 (by kernel_rfl)
theorem ck167 : TrF Go.Proofs.Tryz.prog 167 ir167 := chkF_sound _ clones clonesOk Go.Proofs.Tryz.func167 (by kernel_rfl)
theorem ck168 : TrF Go.Proofs.Tryz.prog 168 ir168 := chkF_sound _ clones clonesOk Go.Proofs.Tryz.func168 (by kernel_rfl)
theorem ck169 : TrF Go.Proofs.Tryz.prog 169 ir169 := chkF_sound _ clones clonesOk Go.Proofs.Tryz.func169 (by kernel_rfl)
theorem ck170 : TrF Go.Proofs.Tryz.prog 170 ir170 := chkF_sound _ clones clonesOk Go.Proofs.Tryz.func170 (by kernel_rfl)
theorem ck171 : TrF Go.Proofs.Tryz.prog 171 ir171 := chkF_sound _ clones clonesOk Go.Proofs.Tryz.func171 (by kernel_rfl)
theorem ck172 : TrF Go.Proofs.Tryz.prog 172 ir172 := chkF_sound _ clones clonesOk Go.Proofs.Tryz.func172 (by kernel_rfl)
theorem ck173 : TrF Go.Proofs.Tryz.prog 173 ir173 := chkF_sound _ clones clonesOk Go.Proofs.Tryz.func173 (by kernel_rfl)
theorem ck174 : TrF Go.Proofs.Tryz.prog 174 ir174 := chkF_sound _ clones clonesOk Go.Proofs.Tryz.func174 (by kernel_rfl)
theorem ck175 : TrF Go.Proofs.Tryz.prog 175 ir175 := chkF_sound _ clones clonesOk Go.Proofs.Tryz.func175 (by kernel_rfl)
theorem ck176 : TrF Go.Proofs.Tryz.prog 176 ir176 := chkF_sound _ clones clonesOk Go.Proofs.Tryz.func176 (by kernel_rfl)
theorem ck177 : TrF Go.Proofs.Tryz.prog 177 ir177 := chkF_sound _ clones clonesOk Go.Proofs.Tryz.func177 (by kernel_rfl)
theorem ck178 : TrF Go.Proofs.Tryz.prog 178 ir178 := chkF_sound _ clones clonesOk Go.Proofs.Tryz.func178 (by kernel_rfl)
theorem ck179 : TrF Go.Proofs.Tryz.prog 179 ir179 := chkF_sound _ clones clonesOk Go.Proofs.Tryz.func179 (by kernel_rfl)
end Go.Ab

/-! ## Ck -/
namespace Go.Ab
theorem ckAll : irT.All (TrF Go.Proofs.Tryz.prog) := ⟨⟨⟨⟨⟨⟨⟨ck3, ck4⟩, ⟨ck5, ⟨ck6, ck7⟩⟩⟩, ⟨⟨ck8, ck9⟩, ⟨ck10, ⟨ck11, ck12⟩⟩⟩⟩, ⟨⟨⟨ck13, ck14⟩, ⟨ck15, ⟨ck16, ck17⟩⟩⟩, ⟨⟨ck18, ⟨ck19, ck20⟩⟩, ⟨ck21, ⟨ck22, ck23⟩⟩⟩⟩⟩, ⟨⟨⟨⟨ck24, ck25⟩, ⟨ck26, ⟨ck27, ck28⟩⟩⟩, ⟨⟨ck29, ⟨ck30, ck31⟩⟩, ⟨ck32, ⟨ck33, ck34⟩⟩⟩⟩, ⟨⟨⟨ck35, ck36⟩, ⟨ck37, ⟨ck38, ck39⟩⟩⟩, ⟨⟨ck40, ⟨ck41, ck42⟩⟩, ⟨ck43, ⟨ck44, ck45⟩⟩⟩⟩⟩⟩, ⟨⟨⟨⟨⟨ck46, ck47⟩, ⟨ck48, ⟨ck49, ck50⟩⟩⟩, ⟨⟨ck51, ck52⟩, ⟨ck53, ⟨ck54, ck55⟩⟩⟩⟩, ⟨⟨⟨ck56, ck57⟩, ⟨ck58, ⟨ck59, ck60⟩⟩⟩, ⟨⟨ck61, ⟨ck62, ck63⟩⟩, ⟨ck64, ⟨ck65, ck66⟩⟩⟩⟩⟩, ⟨⟨⟨⟨ck71, ck72⟩, ⟨ck73, ⟨ck74, ck75⟩⟩⟩, ⟨⟨ck76, ⟨ck77, ck78⟩⟩, ⟨ck79, ⟨ck80, ck81⟩⟩⟩⟩, ⟨⟨⟨ck82, ck83⟩, ⟨ck84, ⟨ck85, ck86⟩⟩⟩, ⟨⟨ck87, ⟨ck88, ck89⟩⟩, ⟨ck90, ⟨ck91, ck92⟩⟩⟩⟩⟩⟩⟩, ⟨⟨⟨⟨⟨⟨ck93, ck94⟩, ⟨ck95, ⟨ck96, ck97⟩⟩⟩, ⟨⟨ck98, ck99⟩, ⟨ck100, ⟨ck101, ck102⟩⟩⟩⟩, ⟨⟨⟨ck103, ck104⟩, ⟨ck105, ⟨ck106, ck107⟩⟩⟩, ⟨⟨ck108, ⟨ck109, ck110⟩⟩, ⟨ck111, ⟨ck112, ck113⟩⟩⟩⟩⟩, ⟨⟨⟨⟨ck114, ck115⟩, ⟨ck116, ⟨ck117, ck118⟩⟩⟩, ⟨⟨ck119, ⟨ck120, ck121⟩⟩, ⟨ck122, ⟨ck123, ck124⟩⟩⟩⟩, ⟨⟨⟨ck125, ck126⟩, ⟨ck127, ⟨ck128, ck129⟩⟩⟩, ⟨⟨ck130, ⟨ck131, ck132⟩⟩, ⟨ck133, ⟨ck134, ck135⟩⟩⟩⟩⟩⟩, ⟨⟨⟨⟨⟨ck136, ck137⟩, ⟨ck138, ⟨ck139, ck140⟩⟩⟩, ⟨⟨ck141, ⟨ck142, ck143⟩⟩, ⟨ck144, ⟨ck145, ck146⟩⟩⟩⟩, ⟨⟨⟨ck147, ck148⟩, ⟨ck149, ⟨ck150, ck151⟩⟩⟩, ⟨⟨ck152, ⟨ck153, ck154⟩⟩, ⟨ck155, ⟨ck156, ck157⟩⟩⟩⟩⟩, ⟨⟨⟨⟨ck158, ck159⟩, ⟨ck160, ⟨ck161, ck162⟩⟩⟩, ⟨⟨ck163, ⟨ck164, ck165⟩⟩, ⟨ck166, ⟨ck167, ck168⟩⟩⟩⟩, ⟨⟨⟨ck169, ck170⟩, ⟨ck171, ⟨ck172, ck173⟩⟩⟩, ⟨⟨ck174, ⟨ck175, ck176⟩⟩, ⟨ck177, ⟨ck178, ck179⟩⟩⟩⟩⟩⟩⟩⟩
end Go.Ab
