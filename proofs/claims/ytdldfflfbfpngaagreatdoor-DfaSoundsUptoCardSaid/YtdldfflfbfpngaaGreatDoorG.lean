/- The seat's functions: numbers, and their code. Written by program. -/
import Derived.Test.YtdldfflfbfpngaaGreatDoorRows
import Derived.Test.YtdldfflfbfpngaaGreatDoorA7
import Derived.Test.YtdldfflfbfpngaaGreatDoorC
import Derived.Test.YtdldfflfbfpngaaGreatDoorCC
import Derived.Test.YtdldfflfbfpngaaGreatDoorCE
namespace Go.Proofs.YtdldfflfbfpngaaGreatDoor
open Go
def seatTab : List (Nat × FuncId) := [(164, 4), (168, 9), (169, 10), (170, 13), (156, 14), (171, 15), (158, 16), (100, 17), (157, 18), (22, 24), (24, 26), (176, 27), (177, 28), (12, 29), (9, 30), (97, 32), (178, 39), (161, 40), (113, 41), (114, 42), (40, 43), (32, 44), (33, 45), (109, 46), (34, 51), (35, 52), (36, 53), (37, 54), (38, 55), (39, 56), (182, 57), (183, 58), (184, 59), (16, 60), (26, 61), (27, 62), (28, 63), (25, 64), (108, 65), (110, 66), (111, 67), (31, 69), (185, 70), (186, 71), (41, 72), (122, 73), (119, 74), (52, 75), (45, 76), (46, 91), (47, 92), (48, 93), (51, 96), (201, 97), (202, 98), (118, 99), (30, 100), (42, 101), (44, 102), (53, 103), (54, 104), (125, 105), (57, 106), (58, 107), (59, 116), (124, 122), (43, 123), (62, 125), (128, 126), (127, 146), (140, 167), (146, 178), (1, 2), (163, 3), (165, 5), (166, 6), (167, 7), (8, 8), (93, 11), (159, 12), (20, 19), (172, 20), (173, 21), (174, 22), (175, 23), (23, 25), (21, 31), (15, 33), (18, 34), (98, 35), (99, 36), (162, 37), (112, 38), (17, 47), (179, 48), (180, 49), (181, 50), (29, 68), (187, 77), (188, 78), (189, 79), (190, 80), (191, 81), (192, 82), (193, 83), (194, 84), (195, 85), (196, 86), (197, 87), (198, 88), (199, 89), (200, 90), (49, 94), (50, 95), (203, 108), (204, 109), (205, 110), (206, 111), (207, 112), (208, 113), (209, 114), (210, 115), (60, 117), (56, 118), (61, 119), (211, 120), (212, 121), (55, 124), (213, 127), (214, 128), (215, 129), (216, 130), (217, 131), (218, 132), (106, 133), (219, 134), (74, 135), (75, 136), (76, 137), (77, 138), (78, 139), (79, 140), (80, 141), (81, 142), (72, 143), (73, 144), (220, 145), (63, 147), (64, 148), (65, 149), (66, 150), (67, 151), (68, 152), (69, 153), (70, 154), (71, 155), (221, 156), (222, 157), (223, 158), (87, 159), (83, 160), (84, 161), (88, 162), (89, 163), (137, 164), (138, 165), (139, 166), (82, 168), (85, 169), (86, 170), (224, 171), (225, 172), (226, 173), (227, 174), (91, 175), (144, 176), (145, 177), (147, 179), (90, 180), (228, 181), (229, 182), (230, 183), (231, 184), (232, 185), (233, 186), (234, 187), (235, 188), (236, 189), (237, 190), (149, 191), (150, 192), (238, 193), (239, 194), (240, 195), (241, 196), (242, 197), (243, 198), (244, 199), (245, 200), (246, 201), (247, 202), (248, 203), (249, 204), (250, 205), (251, 206), (151, 229)]
def seatLib (E : Nat → Ext) : List (Nat × DFun) := [(164, .code d_glyphcutter_glyphcutterlaw11_DfaSounds),
 (168, .code d_glyphcutter_glyphcutterlaw11_known),
 (169, .code d_glyphcutter_dfa_Of),
 (170, .code d_glyphcutter_glyphcutterlaw11_heavy),
 (156, .code d_glyphcutter_glyphcutterlaw11_Make),
 (171, .code d_glyphcutter_dfa_Longest),
 (158, .code d_glyphcutter_glyphcutterref11_Longest),
 (100, .code d_glyphcutter_dfa_Sound),
 (157, .code d_glyphcutter_glyphcutterref11_Sound),
 (22, .code d_glyphcutter_glyphcutterlaw01_Make),
 (24, .code d_glyphcutter_nfa_Sound),
 (176, .code d_glyphcutter_terms_Of),
 (177, .code d___glyphcutter_dfa_maker__place),
 (12, .code d_glyphcutter_sim_Start),
 (9, .code d_glyphcutter_sim_Step),
 (97, .code d_glyphcutter_glyphcutterref10_Of),
 (178, .code d_glyphcutter_terms_Which),
 (161, .code d_glyphcutter_glyphcutterref10_Which),
 (113, .code d_glyphcutter_dfa_apart),
 (114, .code d_glyphcutter_dfa_Sound_1),
 (40, .code d_slices_ContainsFunc___int_int_),
 (32, .code d_glyphcutter_glyphcutterref01_Alike),
 (33, .code d_glyphcutter_glyphcutterref01_Norm),
 (109, .code d_glyphcutter_glyphcutterref01_Inter),
 (34, .code d_glyphcutter_glyphcutterlaw01_place),
 (35, .code d_glyphcutter_nfa_Sound_1),
 (36, .code d_glyphcutter_nfa_Sound_2),
 (37, .code d_slices_Equal___glyphcutter_api_Span_glyphcutter_api_Span_),
 (38, .code d_glyphcutter_set_Norm),
 (39, .code d_slices_ContainsFunc___glyphcutter_api_Edge_glyphcutter_api_Edge_),
 (182, .code d_glyphcutter_terms_edges),
 (183, .code d_glyphcutter_terms_word),
 (184, .code d_glyphcutter_dfa_text),
 (16, .code d_glyphcutter_sim_Tags),
 (26, .code d_glyphcutter_sim_begin),
 (27, .code d___glyphcutter_sim_marks__reach),
 (28, .code d___glyphcutter_sim_marks__all),
 (25, .code d_glyphcutter_sim_step),
 (108, .code d_glyphcutter_glyphcutterref10_some),
 (110, .code d_glyphcutter_glyphcutterref01_Minus),
 (111, .code d_glyphcutter_glyphcutterref10_sorted),
 (31, .code d_glyphcutter_glyphcutterref01_Has),
 (185, .code d_slices_IndexFunc_____glyphcutter_api_Span___glyphcutter_api_Span_),
 (186, .code d_glyphcutter_terms_Which_1),
 (41, .code d_glyphcutter_set_Has),
 (122, .code d_glyphcutter_set_Size),
 (119, .code d_glyphcutter_set_Union),
 (52, .code d_slices_IndexFunc___int_int_),
 (45, .code d_glyphcutter_glyphcutterref01_Make),
 (46, .code d_slices_AppendSeq___glyphcutter_api_Span_glyphcutter_api_Span_),
 (47, .code d_glyphcutter_set_pieces),
 (48, .ext (E 48)),
 (51, .code d_slices_IndexFunc___glyphcutter_api_Edge_glyphcutter_api_Edge_),
 (201, .ext (E 201)),
 (202, .code d_maps_Keys_map_int_int_int_int_),
 (118, .code d_strconv_AppendInt),
 (30, .code d_glyphcutter_sim_tags),
 (42, .ext (E 42)),
 (44, .code d_glyphcutter_glyphcutterref01_scalar),
 (53, .code d_slices_ContainsFunc___glyphcutter_api_Span_glyphcutter_api_Span_),
 (54, .code d_glyphcutter_set_Has_1),
 (125, .code d_slices_Concat___glyphcutter_api_Span_glyphcutter_api_Span_),
 (57, .code d_glyphcutter_glyphcutterref01_edges),
 (58, .code d_glyphcutter_glyphcutterref01_lay),
 (59, .code d_glyphcutter_set_pieces_1),
 (124, .code d_internal_strconv_AppendInt),
 (43, .code d_slices_Compact___int_int_),
 (62, .code d_slices_IndexFunc___glyphcutter_api_Span_glyphcutter_api_Span_),
 (128, .ext (E 128)),
 (127, .code d_internal_strconv_AppendUint),
 (140, .code d_internal_strconv_formatBits),
 (146, .code d_internal_strconv_isPowerOfTwo)]
theorem seat_tab : seatOk Tryz.prog seatTab = true := by kernel_rfl
theorem seat_c164 : (Tryz.prog.funcs[4]?).bind (cFunc (numOf seatTab) Tryz.prog) = some d_glyphcutter_glyphcutterlaw11_DfaSounds := by kernel_rfl
theorem seat_c168 : (Tryz.prog.funcs[9]?).bind (cFunc (numOf seatTab) Tryz.prog) = some d_glyphcutter_glyphcutterlaw11_known := by kernel_rfl
theorem seat_c169 : (Tryz.prog.funcs[10]?).bind (cFunc (numOf seatTab) Tryz.prog) = some d_glyphcutter_dfa_Of := by kernel_rfl
theorem seat_c170 : (Tryz.prog.funcs[13]?).bind (cFunc (numOf seatTab) Tryz.prog) = some d_glyphcutter_glyphcutterlaw11_heavy := by kernel_rfl
theorem seat_c156 : (Tryz.prog.funcs[14]?).bind (cFunc (numOf seatTab) Tryz.prog) = some d_glyphcutter_glyphcutterlaw11_Make := by kernel_rfl
theorem seat_c171 : (Tryz.prog.funcs[15]?).bind (cFunc (numOf seatTab) Tryz.prog) = some d_glyphcutter_dfa_Longest := by kernel_rfl
theorem seat_c158 : (Tryz.prog.funcs[16]?).bind (cFunc (numOf seatTab) Tryz.prog) = some d_glyphcutter_glyphcutterref11_Longest := by kernel_rfl
theorem seat_c100 : (Tryz.prog.funcs[17]?).bind (cFunc (numOf seatTab) Tryz.prog) = some d_glyphcutter_dfa_Sound := by kernel_rfl
theorem seat_c157 : (Tryz.prog.funcs[18]?).bind (cFunc (numOf seatTab) Tryz.prog) = some d_glyphcutter_glyphcutterref11_Sound := by kernel_rfl
theorem seat_c22 : (Tryz.prog.funcs[24]?).bind (cFunc (numOf seatTab) Tryz.prog) = some d_glyphcutter_glyphcutterlaw01_Make := by kernel_rfl
theorem seat_c24 : (Tryz.prog.funcs[26]?).bind (cFunc (numOf seatTab) Tryz.prog) = some d_glyphcutter_nfa_Sound := by kernel_rfl
theorem seat_c176 : (Tryz.prog.funcs[27]?).bind (cFunc (numOf seatTab) Tryz.prog) = some d_glyphcutter_terms_Of := by kernel_rfl
theorem seat_c177 : (Tryz.prog.funcs[28]?).bind (cFunc (numOf seatTab) Tryz.prog) = some d___glyphcutter_dfa_maker__place := by kernel_rfl
theorem seat_c12 : (Tryz.prog.funcs[29]?).bind (cFunc (numOf seatTab) Tryz.prog) = some d_glyphcutter_sim_Start := by kernel_rfl
theorem seat_c9 : (Tryz.prog.funcs[30]?).bind (cFunc (numOf seatTab) Tryz.prog) = some d_glyphcutter_sim_Step := by kernel_rfl
theorem seat_c97 : (Tryz.prog.funcs[32]?).bind (cFunc (numOf seatTab) Tryz.prog) = some d_glyphcutter_glyphcutterref10_Of := by kernel_rfl
theorem seat_c178 : (Tryz.prog.funcs[39]?).bind (cFunc (numOf seatTab) Tryz.prog) = some d_glyphcutter_terms_Which := by kernel_rfl
theorem seat_c161 : (Tryz.prog.funcs[40]?).bind (cFunc (numOf seatTab) Tryz.prog) = some d_glyphcutter_glyphcutterref10_Which := by kernel_rfl
theorem seat_c113 : (Tryz.prog.funcs[41]?).bind (cFunc (numOf seatTab) Tryz.prog) = some d_glyphcutter_dfa_apart := by kernel_rfl
theorem seat_c114 : (Tryz.prog.funcs[42]?).bind (cFunc (numOf seatTab) Tryz.prog) = some d_glyphcutter_dfa_Sound_1 := by kernel_rfl
theorem seat_c40 : (Tryz.prog.funcs[43]?).bind (cFunc (numOf seatTab) Tryz.prog) = some d_slices_ContainsFunc___int_int_ := by kernel_rfl
theorem seat_c32 : (Tryz.prog.funcs[44]?).bind (cFunc (numOf seatTab) Tryz.prog) = some d_glyphcutter_glyphcutterref01_Alike := by kernel_rfl
theorem seat_c33 : (Tryz.prog.funcs[45]?).bind (cFunc (numOf seatTab) Tryz.prog) = some d_glyphcutter_glyphcutterref01_Norm := by kernel_rfl
theorem seat_c109 : (Tryz.prog.funcs[46]?).bind (cFunc (numOf seatTab) Tryz.prog) = some d_glyphcutter_glyphcutterref01_Inter := by kernel_rfl
theorem seat_c34 : (Tryz.prog.funcs[51]?).bind (cFunc (numOf seatTab) Tryz.prog) = some d_glyphcutter_glyphcutterlaw01_place := by kernel_rfl
theorem seat_c35 : (Tryz.prog.funcs[52]?).bind (cFunc (numOf seatTab) Tryz.prog) = some d_glyphcutter_nfa_Sound_1 := by kernel_rfl
theorem seat_c36 : (Tryz.prog.funcs[53]?).bind (cFunc (numOf seatTab) Tryz.prog) = some d_glyphcutter_nfa_Sound_2 := by kernel_rfl
theorem seat_c37 : (Tryz.prog.funcs[54]?).bind (cFunc (numOf seatTab) Tryz.prog) = some d_slices_Equal___glyphcutter_api_Span_glyphcutter_api_Span_ := by kernel_rfl
theorem seat_c38 : (Tryz.prog.funcs[55]?).bind (cFunc (numOf seatTab) Tryz.prog) = some d_glyphcutter_set_Norm := by kernel_rfl
theorem seat_c39 : (Tryz.prog.funcs[56]?).bind (cFunc (numOf seatTab) Tryz.prog) = some d_slices_ContainsFunc___glyphcutter_api_Edge_glyphcutter_api_Edge_ := by kernel_rfl
theorem seat_c182 : (Tryz.prog.funcs[57]?).bind (cFunc (numOf seatTab) Tryz.prog) = some d_glyphcutter_terms_edges := by kernel_rfl
theorem seat_c183 : (Tryz.prog.funcs[58]?).bind (cFunc (numOf seatTab) Tryz.prog) = some d_glyphcutter_terms_word := by kernel_rfl
theorem seat_c184 : (Tryz.prog.funcs[59]?).bind (cFunc (numOf seatTab) Tryz.prog) = some d_glyphcutter_dfa_text := by kernel_rfl
theorem seat_c16 : (Tryz.prog.funcs[60]?).bind (cFunc (numOf seatTab) Tryz.prog) = some d_glyphcutter_sim_Tags := by kernel_rfl
theorem seat_c26 : (Tryz.prog.funcs[61]?).bind (cFunc (numOf seatTab) Tryz.prog) = some d_glyphcutter_sim_begin := by kernel_rfl
theorem seat_c27 : (Tryz.prog.funcs[62]?).bind (cFunc (numOf seatTab) Tryz.prog) = some d___glyphcutter_sim_marks__reach := by kernel_rfl
theorem seat_c28 : (Tryz.prog.funcs[63]?).bind (cFunc (numOf seatTab) Tryz.prog) = some d___glyphcutter_sim_marks__all := by kernel_rfl
theorem seat_c25 : (Tryz.prog.funcs[64]?).bind (cFunc (numOf seatTab) Tryz.prog) = some d_glyphcutter_sim_step := by kernel_rfl
theorem seat_c108 : (Tryz.prog.funcs[65]?).bind (cFunc (numOf seatTab) Tryz.prog) = some d_glyphcutter_glyphcutterref10_some := by kernel_rfl
theorem seat_c110 : (Tryz.prog.funcs[66]?).bind (cFunc (numOf seatTab) Tryz.prog) = some d_glyphcutter_glyphcutterref01_Minus := by kernel_rfl
theorem seat_c111 : (Tryz.prog.funcs[67]?).bind (cFunc (numOf seatTab) Tryz.prog) = some d_glyphcutter_glyphcutterref10_sorted := by kernel_rfl
theorem seat_c31 : (Tryz.prog.funcs[69]?).bind (cFunc (numOf seatTab) Tryz.prog) = some d_glyphcutter_glyphcutterref01_Has := by kernel_rfl
theorem seat_c185 : (Tryz.prog.funcs[70]?).bind (cFunc (numOf seatTab) Tryz.prog) = some d_slices_IndexFunc_____glyphcutter_api_Span___glyphcutter_api_Span_ := by kernel_rfl
theorem seat_c186 : (Tryz.prog.funcs[71]?).bind (cFunc (numOf seatTab) Tryz.prog) = some d_glyphcutter_terms_Which_1 := by kernel_rfl
theorem seat_c41 : (Tryz.prog.funcs[72]?).bind (cFunc (numOf seatTab) Tryz.prog) = some d_glyphcutter_set_Has := by kernel_rfl
theorem seat_c122 : (Tryz.prog.funcs[73]?).bind (cFunc (numOf seatTab) Tryz.prog) = some d_glyphcutter_set_Size := by kernel_rfl
theorem seat_c119 : (Tryz.prog.funcs[74]?).bind (cFunc (numOf seatTab) Tryz.prog) = some d_glyphcutter_set_Union := by kernel_rfl
theorem seat_c52 : (Tryz.prog.funcs[75]?).bind (cFunc (numOf seatTab) Tryz.prog) = some d_slices_IndexFunc___int_int_ := by kernel_rfl
theorem seat_c45 : (Tryz.prog.funcs[76]?).bind (cFunc (numOf seatTab) Tryz.prog) = some d_glyphcutter_glyphcutterref01_Make := by kernel_rfl
theorem seat_c46 : (Tryz.prog.funcs[91]?).bind (cFunc (numOf seatTab) Tryz.prog) = some d_slices_AppendSeq___glyphcutter_api_Span_glyphcutter_api_Span_ := by kernel_rfl
theorem seat_c47 : (Tryz.prog.funcs[92]?).bind (cFunc (numOf seatTab) Tryz.prog) = some d_glyphcutter_set_pieces := by kernel_rfl
theorem seat_c51 : (Tryz.prog.funcs[96]?).bind (cFunc (numOf seatTab) Tryz.prog) = some d_slices_IndexFunc___glyphcutter_api_Edge_glyphcutter_api_Edge_ := by kernel_rfl
theorem seat_c202 : (Tryz.prog.funcs[98]?).bind (cFunc (numOf seatTab) Tryz.prog) = some d_maps_Keys_map_int_int_int_int_ := by kernel_rfl
theorem seat_c118 : (Tryz.prog.funcs[99]?).bind (cFunc (numOf seatTab) Tryz.prog) = some d_strconv_AppendInt := by kernel_rfl
theorem seat_c30 : (Tryz.prog.funcs[100]?).bind (cFunc (numOf seatTab) Tryz.prog) = some d_glyphcutter_sim_tags := by kernel_rfl
theorem seat_c44 : (Tryz.prog.funcs[102]?).bind (cFunc (numOf seatTab) Tryz.prog) = some d_glyphcutter_glyphcutterref01_scalar := by kernel_rfl
theorem seat_c53 : (Tryz.prog.funcs[103]?).bind (cFunc (numOf seatTab) Tryz.prog) = some d_slices_ContainsFunc___glyphcutter_api_Span_glyphcutter_api_Span_ := by kernel_rfl
theorem seat_c54 : (Tryz.prog.funcs[104]?).bind (cFunc (numOf seatTab) Tryz.prog) = some d_glyphcutter_set_Has_1 := by kernel_rfl
theorem seat_c125 : (Tryz.prog.funcs[105]?).bind (cFunc (numOf seatTab) Tryz.prog) = some d_slices_Concat___glyphcutter_api_Span_glyphcutter_api_Span_ := by kernel_rfl
theorem seat_c57 : (Tryz.prog.funcs[106]?).bind (cFunc (numOf seatTab) Tryz.prog) = some d_glyphcutter_glyphcutterref01_edges := by kernel_rfl
theorem seat_c58 : (Tryz.prog.funcs[107]?).bind (cFunc (numOf seatTab) Tryz.prog) = some d_glyphcutter_glyphcutterref01_lay := by kernel_rfl
theorem seat_c59 : (Tryz.prog.funcs[116]?).bind (cFunc (numOf seatTab) Tryz.prog) = some d_glyphcutter_set_pieces_1 := by kernel_rfl
theorem seat_c124 : (Tryz.prog.funcs[122]?).bind (cFunc (numOf seatTab) Tryz.prog) = some d_internal_strconv_AppendInt := by kernel_rfl
theorem seat_c43 : (Tryz.prog.funcs[123]?).bind (cFunc (numOf seatTab) Tryz.prog) = some d_slices_Compact___int_int_ := by kernel_rfl
theorem seat_c62 : (Tryz.prog.funcs[125]?).bind (cFunc (numOf seatTab) Tryz.prog) = some d_slices_IndexFunc___glyphcutter_api_Span_glyphcutter_api_Span_ := by kernel_rfl
theorem seat_c127 : (Tryz.prog.funcs[146]?).bind (cFunc (numOf seatTab) Tryz.prog) = some d_internal_strconv_AppendUint := by kernel_rfl
theorem seat_c140 : (Tryz.prog.funcs[167]?).bind (cFunc (numOf seatTab) Tryz.prog) = some d_internal_strconv_formatBits := by kernel_rfl
theorem seat_c146 : (Tryz.prog.funcs[178]?).bind (cFunc (numOf seatTab) Tryz.prog) = some d_internal_strconv_isPowerOfTwo := by kernel_rfl
theorem seat_codes (E : Nat → Ext) : codesOk Tryz.prog seatTab (seatLib E) :=
 ⟨.inr ⟨4, by kernel_rfl, seat_c164⟩,
 .inr ⟨9, by kernel_rfl, seat_c168⟩,
 .inr ⟨10, by kernel_rfl, seat_c169⟩,
 .inr ⟨13, by kernel_rfl, seat_c170⟩,
 .inr ⟨14, by kernel_rfl, seat_c156⟩,
 .inr ⟨15, by kernel_rfl, seat_c171⟩,
 .inr ⟨16, by kernel_rfl, seat_c158⟩,
 .inr ⟨17, by kernel_rfl, seat_c100⟩,
 .inr ⟨18, by kernel_rfl, seat_c157⟩,
 .inr ⟨24, by kernel_rfl, seat_c22⟩,
 .inr ⟨26, by kernel_rfl, seat_c24⟩,
 .inr ⟨27, by kernel_rfl, seat_c176⟩,
 .inr ⟨28, by kernel_rfl, seat_c177⟩,
 .inr ⟨29, by kernel_rfl, seat_c12⟩,
 .inr ⟨30, by kernel_rfl, seat_c9⟩,
 .inr ⟨32, by kernel_rfl, seat_c97⟩,
 .inr ⟨39, by kernel_rfl, seat_c178⟩,
 .inr ⟨40, by kernel_rfl, seat_c161⟩,
 .inr ⟨41, by kernel_rfl, seat_c113⟩,
 .inr ⟨42, by kernel_rfl, seat_c114⟩,
 .inr ⟨43, by kernel_rfl, seat_c40⟩,
 .inr ⟨44, by kernel_rfl, seat_c32⟩,
 .inr ⟨45, by kernel_rfl, seat_c33⟩,
 .inr ⟨46, by kernel_rfl, seat_c109⟩,
 .inr ⟨51, by kernel_rfl, seat_c34⟩,
 .inr ⟨52, by kernel_rfl, seat_c35⟩,
 .inr ⟨53, by kernel_rfl, seat_c36⟩,
 .inr ⟨54, by kernel_rfl, seat_c37⟩,
 .inr ⟨55, by kernel_rfl, seat_c38⟩,
 .inr ⟨56, by kernel_rfl, seat_c39⟩,
 .inr ⟨57, by kernel_rfl, seat_c182⟩,
 .inr ⟨58, by kernel_rfl, seat_c183⟩,
 .inr ⟨59, by kernel_rfl, seat_c184⟩,
 .inr ⟨60, by kernel_rfl, seat_c16⟩,
 .inr ⟨61, by kernel_rfl, seat_c26⟩,
 .inr ⟨62, by kernel_rfl, seat_c27⟩,
 .inr ⟨63, by kernel_rfl, seat_c28⟩,
 .inr ⟨64, by kernel_rfl, seat_c25⟩,
 .inr ⟨65, by kernel_rfl, seat_c108⟩,
 .inr ⟨66, by kernel_rfl, seat_c110⟩,
 .inr ⟨67, by kernel_rfl, seat_c111⟩,
 .inr ⟨69, by kernel_rfl, seat_c31⟩,
 .inr ⟨70, by kernel_rfl, seat_c185⟩,
 .inr ⟨71, by kernel_rfl, seat_c186⟩,
 .inr ⟨72, by kernel_rfl, seat_c41⟩,
 .inr ⟨73, by kernel_rfl, seat_c122⟩,
 .inr ⟨74, by kernel_rfl, seat_c119⟩,
 .inr ⟨75, by kernel_rfl, seat_c52⟩,
 .inr ⟨76, by kernel_rfl, seat_c45⟩,
 .inr ⟨91, by kernel_rfl, seat_c46⟩,
 .inr ⟨92, by kernel_rfl, seat_c47⟩,
 .inr ⟨96, by kernel_rfl, seat_c51⟩,
 .inr ⟨98, by kernel_rfl, seat_c202⟩,
 .inr ⟨99, by kernel_rfl, seat_c118⟩,
 .inr ⟨100, by kernel_rfl, seat_c30⟩,
 .inr ⟨102, by kernel_rfl, seat_c44⟩,
 .inr ⟨103, by kernel_rfl, seat_c53⟩,
 .inr ⟨104, by kernel_rfl, seat_c54⟩,
 .inr ⟨105, by kernel_rfl, seat_c125⟩,
 .inr ⟨106, by kernel_rfl, seat_c57⟩,
 .inr ⟨107, by kernel_rfl, seat_c58⟩,
 .inr ⟨116, by kernel_rfl, seat_c59⟩,
 .inr ⟨122, by kernel_rfl, seat_c124⟩,
 .inr ⟨123, by kernel_rfl, seat_c43⟩,
 .inr ⟨125, by kernel_rfl, seat_c62⟩,
 .inr ⟨146, by kernel_rfl, seat_c127⟩,
 .inr ⟨167, by kernel_rfl, seat_c140⟩,
 .inr ⟨178, by kernel_rfl, seat_c146⟩, trivial⟩
end Go.Proofs.YtdldfflfbfpngaaGreatDoor
