/- The seat's functions: numbers, and their code. Written by program. -/
import Derived.Test.YtlnobeojgifojaaGreatDoorRows
import Derived.Test.YtlnobeojgifojaaGreatDoorA7
import Derived.Test.YtlnobeojgifojaaGreatDoorC
import Derived.Test.YtlnobeojgifojaaGreatDoorCC
import Derived.Test.YtlnobeojgifojaaGreatDoorCE
import Derived.Test.YtlnobeojgifojaaGreatDoorCF
namespace Go.Proofs.YtlnobeojgifojaaGreatDoor
section
open Go
def aT:List (Nat×FuncId):=[(252,3),(258,9),(156,10),(259,11),(203,12),(22,15),(262,18),(263,19),(266,22),(95,23),(267,24),(268,25),(269,26),(270,27),(97,28),(213,29),(34,34),(274,36),(40,37),(100,38),(101,39),(102,40),(103,41),(104,42),(105,43),(106,44),(107,45),(275,46),(276,47),(38,48),(277,49),(278,50),(279,51),(280,52),(108,53),(109,54),(110,55),(111,56),(221,57),(31,69),(52,70),(113,71),(114,72),(115,73),(116,74),(117,75),(118,76),(119,77),(120,78),(290,81),(291,82),(292,83),(293,84),(46,85),(47,86),(48,87),(294,89),(295,90),(296,91),(297,92),(45,93),(224,94),(225,95),(44,105),(37,106),(122,107),(123,108),(124,109),(125,110),(59,114),(307,116),(308,117),(57,118),(58,119),(127,124),(128,125),(314,145),(140,150),(146,161),(1,2),(253,4),(254,5),(255,6),(256,7),(257,8),(260,13),(261,14),(245,16),(158,17),(264,20),(265,21),(157,30),(271,31),(272,32),(273,33),(161,35),(32,58),(33,59),(281,60),(282,61),(283,62),(284,63),(285,64),(286,65),(287,66),(288,67),(289,68),(121,79),(50,80),(49,88),(298,96),(299,97),(300,98),(301,99),(302,100),(303,101),(304,102),(305,103),(306,104),(126,111),(56,112),(61,113),(60,115),(309,120),(310,121),(311,122),(312,123),(129,126),(130,127),(131,128),(132,129),(133,130),(134,131),(135,132),(136,133),(72,134),(73,135),(74,136),(75,137),(76,138),(77,139),(78,140),(79,141),(80,142),(81,143),(313,144),(315,146),(137,147),(138,148),(139,149),(141,151),(83,152),(84,153),(142,154),(143,155),(87,156),(88,157),(89,158),(144,159),(145,160),(147,162),(148,163),(91,164),(149,165),(150,166),(151,189)]
def xr (E:Nat→Ext):List (Nat×sL):=[(252,.code cK),
 (258,.code il),
 (156,.code dK),
 (259,.code dy),
 (203,.code dt),
 (22,.code dL),
 (262,.code fw),
 (263,.code fZ),
 (266,.code dR),
 (95,.code iq),
 (267,.code iV),
 (268,.code dS),
 (269,.code d5),
 (270,.code fu),
 (97,.code d4),
 (213,.code du),
 (34,.code dz),
 (274,.code fv),
 (40,.code eo),
 (100,.code gR),
 (101,.code fL),
 (102,.code gB),
 (103,.code dT),
 (104,.code dU),
 (105,.code d8),
 (106,.code bW),
 (107,.code eu),
 (275,.code gu),
 (276,.code fX),
 (38,.code ij),
 (277,.code gm),
 (278,.code ep),
 (279,.code d6),
 (280,.code fY),
 (108,.code dH),
 (109,.code dx),
 (110,.code dw),
 (111,.code dg),
 (221,.code dm),
 (31,.code dQ),
 (52,.code dB),
 (113,.code gQ),
 (114,.code f0),
 (115,.code gA),
 (116,.code fV),
 (117,.code d7),
 (118,.code jv),
 (119,.code gP),
 (120,.ext (E 120)),
 (290,.code fK),
 (291,.code bQ),
 (292,.code gq),
 (293,.code fW),
 (46,.code bO),
 (47,.code gn),
 (48,.ext (E 48)),
 (294,.code gl),
 (295,.code fU),
 (296,.code fI),
 (297,.code gv),
 (45,.code dJ),
 (224,.code dI),
 (225,.code dh),
 (44,.code dn),
 (37,.code bV),
 (122,.code ii),
 (123,.code er),
 (124,.code fk),
 (125,.code bS),
 (59,.code fJ),
 (307,.code dZ),
 (308,.code ld),
 (57,.code dv),
 (58,.code dP),
 (127,.code eT),
 (128,.ext (E 128)),
 (314,.code j9),
 (140,.code eS),
 (146,.code eD),
 (42,.ext (E 42))]
theorem FK:F1 Tryz.prog aT=true:=by kernel_rfl
theorem DA:(Tryz.prog.funcs[3]?).bind (bK (bJ aT) Tryz.prog)=some cK:=by kernel_rfl
theorem Dz:(Tryz.prog.funcs[9]?).bind (bK (bJ aT) Tryz.prog)=some il:=by kernel_rfl
theorem DG:(Tryz.prog.funcs[10]?).bind (bK (bJ aT) Tryz.prog)=some dK:=by kernel_rfl
theorem Dy:(Tryz.prog.funcs[11]?).bind (bK (bJ aT) Tryz.prog)=some dy:=by kernel_rfl
theorem DF:(Tryz.prog.funcs[12]?).bind (bK (bJ aT) Tryz.prog)=some dt:=by kernel_rfl
theorem F0:(Tryz.prog.funcs[15]?).bind (bK (bJ aT) Tryz.prog)=some dL:=by kernel_rfl
theorem Dx:(Tryz.prog.funcs[18]?).bind (bK (bJ aT) Tryz.prog)=some fw:=by kernel_rfl
theorem Dw:(Tryz.prog.funcs[19]?).bind (bK (bJ aT) Tryz.prog)=some fZ:=by kernel_rfl
theorem Dv:(Tryz.prog.funcs[22]?).bind (bK (bJ aT) Tryz.prog)=some dR:=by kernel_rfl
theorem FM:(Tryz.prog.funcs[23]?).bind (bK (bJ aT) Tryz.prog)=some iq:=by kernel_rfl
theorem Du:(Tryz.prog.funcs[24]?).bind (bK (bJ aT) Tryz.prog)=some iV:=by kernel_rfl
theorem Dt:(Tryz.prog.funcs[25]?).bind (bK (bJ aT) Tryz.prog)=some dS:=by kernel_rfl
theorem Ds:(Tryz.prog.funcs[26]?).bind (bK (bJ aT) Tryz.prog)=some d5:=by kernel_rfl
theorem Dr:(Tryz.prog.funcs[27]?).bind (bK (bJ aT) Tryz.prog)=some fu:=by kernel_rfl
theorem FL:(Tryz.prog.funcs[28]?).bind (bK (bJ aT) Tryz.prog)=some d4:=by kernel_rfl
theorem DE:(Tryz.prog.funcs[29]?).bind (bK (bJ aT) Tryz.prog)=some du:=by kernel_rfl
theorem FY:(Tryz.prog.funcs[34]?).bind (bK (bJ aT) Tryz.prog)=some dz:=by kernel_rfl
theorem Dq:(Tryz.prog.funcs[36]?).bind (bK (bJ aT) Tryz.prog)=some fv:=by kernel_rfl
theorem FV:(Tryz.prog.funcs[37]?).bind (bK (bJ aT) Tryz.prog)=some eo:=by kernel_rfl
theorem D9:(Tryz.prog.funcs[38]?).bind (bK (bJ aT) Tryz.prog)=some gR:=by kernel_rfl
theorem D8:(Tryz.prog.funcs[39]?).bind (bK (bJ aT) Tryz.prog)=some fL:=by kernel_rfl
theorem D7:(Tryz.prog.funcs[40]?).bind (bK (bJ aT) Tryz.prog)=some gB:=by kernel_rfl
theorem D6:(Tryz.prog.funcs[41]?).bind (bK (bJ aT) Tryz.prog)=some dT:=by kernel_rfl
theorem D5:(Tryz.prog.funcs[42]?).bind (bK (bJ aT) Tryz.prog)=some dU:=by kernel_rfl
theorem D4:(Tryz.prog.funcs[43]?).bind (bK (bJ aT) Tryz.prog)=some d8:=by kernel_rfl
theorem D3:(Tryz.prog.funcs[44]?).bind (bK (bJ aT) Tryz.prog)=some bW:=by kernel_rfl
theorem DZ:(Tryz.prog.funcs[45]?).bind (bK (bJ aT) Tryz.prog)=some eu:=by kernel_rfl
theorem Dp:(Tryz.prog.funcs[46]?).bind (bK (bJ aT) Tryz.prog)=some gu:=by kernel_rfl
theorem Do:(Tryz.prog.funcs[47]?).bind (bK (bJ aT) Tryz.prog)=some fX:=by kernel_rfl
theorem FW:(Tryz.prog.funcs[48]?).bind (bK (bJ aT) Tryz.prog)=some ij:=by kernel_rfl
theorem Dn:(Tryz.prog.funcs[49]?).bind (bK (bJ aT) Tryz.prog)=some gm:=by kernel_rfl
theorem Dm:(Tryz.prog.funcs[50]?).bind (bK (bJ aT) Tryz.prog)=some ep:=by kernel_rfl
theorem Dl:(Tryz.prog.funcs[51]?).bind (bK (bJ aT) Tryz.prog)=some d6:=by kernel_rfl
theorem Dk:(Tryz.prog.funcs[52]?).bind (bK (bJ aT) Tryz.prog)=some fY:=by kernel_rfl
theorem DY:(Tryz.prog.funcs[53]?).bind (bK (bJ aT) Tryz.prog)=some dH:=by kernel_rfl
theorem DX:(Tryz.prog.funcs[54]?).bind (bK (bJ aT) Tryz.prog)=some dx:=by kernel_rfl
theorem DW:(Tryz.prog.funcs[55]?).bind (bK (bJ aT) Tryz.prog)=some dw:=by kernel_rfl
theorem DV:(Tryz.prog.funcs[56]?).bind (bK (bJ aT) Tryz.prog)=some dg:=by kernel_rfl
theorem DD:(Tryz.prog.funcs[57]?).bind (bK (bJ aT) Tryz.prog)=some dm:=by kernel_rfl
theorem FZ:(Tryz.prog.funcs[69]?).bind (bK (bJ aT) Tryz.prog)=some dQ:=by kernel_rfl
theorem FQ:(Tryz.prog.funcs[70]?).bind (bK (bJ aT) Tryz.prog)=some dB:=by kernel_rfl
theorem DU:(Tryz.prog.funcs[71]?).bind (bK (bJ aT) Tryz.prog)=some gQ:=by kernel_rfl
theorem DT:(Tryz.prog.funcs[72]?).bind (bK (bJ aT) Tryz.prog)=some f0:=by kernel_rfl
theorem DS:(Tryz.prog.funcs[73]?).bind (bK (bJ aT) Tryz.prog)=some gA:=by kernel_rfl
theorem DR:(Tryz.prog.funcs[74]?).bind (bK (bJ aT) Tryz.prog)=some fV:=by kernel_rfl
theorem DQ:(Tryz.prog.funcs[75]?).bind (bK (bJ aT) Tryz.prog)=some d7:=by kernel_rfl
theorem DP:(Tryz.prog.funcs[76]?).bind (bK (bJ aT) Tryz.prog)=some jv:=by kernel_rfl
theorem DO:(Tryz.prog.funcs[77]?).bind (bK (bJ aT) Tryz.prog)=some gP:=by kernel_rfl
theorem Dj:(Tryz.prog.funcs[81]?).bind (bK (bJ aT) Tryz.prog)=some fK:=by kernel_rfl
theorem Di:(Tryz.prog.funcs[82]?).bind (bK (bJ aT) Tryz.prog)=some bQ:=by kernel_rfl
theorem Dh:(Tryz.prog.funcs[83]?).bind (bK (bJ aT) Tryz.prog)=some gq:=by kernel_rfl
theorem Dg:(Tryz.prog.funcs[84]?).bind (bK (bJ aT) Tryz.prog)=some fW:=by kernel_rfl
theorem FS:(Tryz.prog.funcs[85]?).bind (bK (bJ aT) Tryz.prog)=some bO:=by kernel_rfl
theorem FR:(Tryz.prog.funcs[86]?).bind (bK (bJ aT) Tryz.prog)=some gn:=by kernel_rfl
theorem Df:(Tryz.prog.funcs[89]?).bind (bK (bJ aT) Tryz.prog)=some gl:=by kernel_rfl
theorem De:(Tryz.prog.funcs[90]?).bind (bK (bJ aT) Tryz.prog)=some fU:=by kernel_rfl
theorem Dd:(Tryz.prog.funcs[91]?).bind (bK (bJ aT) Tryz.prog)=some fI:=by kernel_rfl
theorem Dc:(Tryz.prog.funcs[92]?).bind (bK (bJ aT) Tryz.prog)=some gv:=by kernel_rfl
theorem FT:(Tryz.prog.funcs[93]?).bind (bK (bJ aT) Tryz.prog)=some dJ:=by kernel_rfl
theorem DC:(Tryz.prog.funcs[94]?).bind (bK (bJ aT) Tryz.prog)=some dI:=by kernel_rfl
theorem DB:(Tryz.prog.funcs[95]?).bind (bK (bJ aT) Tryz.prog)=some dh:=by kernel_rfl
theorem FU:(Tryz.prog.funcs[105]?).bind (bK (bJ aT) Tryz.prog)=some dn:=by kernel_rfl
theorem FX:(Tryz.prog.funcs[106]?).bind (bK (bJ aT) Tryz.prog)=some bV:=by kernel_rfl
theorem DN:(Tryz.prog.funcs[107]?).bind (bK (bJ aT) Tryz.prog)=some ii:=by kernel_rfl
theorem DM:(Tryz.prog.funcs[108]?).bind (bK (bJ aT) Tryz.prog)=some er:=by kernel_rfl
theorem DL:(Tryz.prog.funcs[109]?).bind (bK (bJ aT) Tryz.prog)=some fk:=by kernel_rfl
theorem DK:(Tryz.prog.funcs[110]?).bind (bK (bJ aT) Tryz.prog)=some bS:=by kernel_rfl
theorem FN:(Tryz.prog.funcs[114]?).bind (bK (bJ aT) Tryz.prog)=some fJ:=by kernel_rfl
theorem Db:(Tryz.prog.funcs[116]?).bind (bK (bJ aT) Tryz.prog)=some dZ:=by kernel_rfl
theorem Da:(Tryz.prog.funcs[117]?).bind (bK (bJ aT) Tryz.prog)=some ld:=by kernel_rfl
theorem FP:(Tryz.prog.funcs[118]?).bind (bK (bJ aT) Tryz.prog)=some dv:=by kernel_rfl
theorem FO:(Tryz.prog.funcs[119]?).bind (bK (bJ aT) Tryz.prog)=some dP:=by kernel_rfl
theorem DJ:(Tryz.prog.funcs[124]?).bind (bK (bJ aT) Tryz.prog)=some eT:=by kernel_rfl
theorem C8:(Tryz.prog.funcs[145]?).bind (bK (bJ aT) Tryz.prog)=some j9:=by kernel_rfl
theorem DI:(Tryz.prog.funcs[150]?).bind (bK (bJ aT) Tryz.prog)=some eS:=by kernel_rfl
theorem DH:(Tryz.prog.funcs[161]?).bind (bK (bJ aT) Tryz.prog)=some eD:=by kernel_rfl
theorem Ax (E:Nat→Ext):qX Tryz.prog aT (xr E) :=
 ⟨.inr ⟨3,by kernel_rfl,DA⟩,
 .inr ⟨9,by kernel_rfl,Dz⟩,
 .inr ⟨10,by kernel_rfl,DG⟩,
 .inr ⟨11,by kernel_rfl,Dy⟩,
 .inr ⟨12,by kernel_rfl,DF⟩,
 .inr ⟨15,by kernel_rfl,F0⟩,
 .inr ⟨18,by kernel_rfl,Dx⟩,
 .inr ⟨19,by kernel_rfl,Dw⟩,
 .inr ⟨22,by kernel_rfl,Dv⟩,
 .inr ⟨23,by kernel_rfl,FM⟩,
 .inr ⟨24,by kernel_rfl,Du⟩,
 .inr ⟨25,by kernel_rfl,Dt⟩,
 .inr ⟨26,by kernel_rfl,Ds⟩,
 .inr ⟨27,by kernel_rfl,Dr⟩,
 .inr ⟨28,by kernel_rfl,FL⟩,
 .inr ⟨29,by kernel_rfl,DE⟩,
 .inr ⟨34,by kernel_rfl,FY⟩,
 .inr ⟨36,by kernel_rfl,Dq⟩,
 .inr ⟨37,by kernel_rfl,FV⟩,
 .inr ⟨38,by kernel_rfl,D9⟩,
 .inr ⟨39,by kernel_rfl,D8⟩,
 .inr ⟨40,by kernel_rfl,D7⟩,
 .inr ⟨41,by kernel_rfl,D6⟩,
 .inr ⟨42,by kernel_rfl,D5⟩,
 .inr ⟨43,by kernel_rfl,D4⟩,
 .inr ⟨44,by kernel_rfl,D3⟩,
 .inr ⟨45,by kernel_rfl,DZ⟩,
 .inr ⟨46,by kernel_rfl,Dp⟩,
 .inr ⟨47,by kernel_rfl,Do⟩,
 .inr ⟨48,by kernel_rfl,FW⟩,
 .inr ⟨49,by kernel_rfl,Dn⟩,
 .inr ⟨50,by kernel_rfl,Dm⟩,
 .inr ⟨51,by kernel_rfl,Dl⟩,
 .inr ⟨52,by kernel_rfl,Dk⟩,
 .inr ⟨53,by kernel_rfl,DY⟩,
 .inr ⟨54,by kernel_rfl,DX⟩,
 .inr ⟨55,by kernel_rfl,DW⟩,
 .inr ⟨56,by kernel_rfl,DV⟩,
 .inr ⟨57,by kernel_rfl,DD⟩,
 .inr ⟨69,by kernel_rfl,FZ⟩,
 .inr ⟨70,by kernel_rfl,FQ⟩,
 .inr ⟨71,by kernel_rfl,DU⟩,
 .inr ⟨72,by kernel_rfl,DT⟩,
 .inr ⟨73,by kernel_rfl,DS⟩,
 .inr ⟨74,by kernel_rfl,DR⟩,
 .inr ⟨75,by kernel_rfl,DQ⟩,
 .inr ⟨76,by kernel_rfl,DP⟩,
 .inr ⟨77,by kernel_rfl,DO⟩,
 .inr ⟨81,by kernel_rfl,Dj⟩,
 .inr ⟨82,by kernel_rfl,Di⟩,
 .inr ⟨83,by kernel_rfl,Dh⟩,
 .inr ⟨84,by kernel_rfl,Dg⟩,
 .inr ⟨85,by kernel_rfl,FS⟩,
 .inr ⟨86,by kernel_rfl,FR⟩,
 .inr ⟨89,by kernel_rfl,Df⟩,
 .inr ⟨90,by kernel_rfl,De⟩,
 .inr ⟨91,by kernel_rfl,Dd⟩,
 .inr ⟨92,by kernel_rfl,Dc⟩,
 .inr ⟨93,by kernel_rfl,FT⟩,
 .inr ⟨94,by kernel_rfl,DC⟩,
 .inr ⟨95,by kernel_rfl,DB⟩,
 .inr ⟨105,by kernel_rfl,FU⟩,
 .inr ⟨106,by kernel_rfl,FX⟩,
 .inr ⟨107,by kernel_rfl,DN⟩,
 .inr ⟨108,by kernel_rfl,DM⟩,
 .inr ⟨109,by kernel_rfl,DL⟩,
 .inr ⟨110,by kernel_rfl,DK⟩,
 .inr ⟨114,by kernel_rfl,FN⟩,
 .inr ⟨116,by kernel_rfl,Db⟩,
 .inr ⟨117,by kernel_rfl,Da⟩,
 .inr ⟨118,by kernel_rfl,FP⟩,
 .inr ⟨119,by kernel_rfl,FO⟩,
 .inr ⟨124,by kernel_rfl,DJ⟩,
 .inr ⟨145,by kernel_rfl,C8⟩,
 .inr ⟨150,by kernel_rfl,DI⟩,
 .inr ⟨161,by kernel_rfl,DH⟩,trivial⟩
end
end Go.Proofs.YtlnobeojgifojaaGreatDoor
