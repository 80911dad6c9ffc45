/- The seat's functions: numbers, and their code. Written by program. -/
import Derived.Test.YtlnobeojgifojaaGreatDoorRows
import Derived.Test.YtlnobeojgifojaaGreatDoorA7
import Derived.Test.YtlnobeojgifojaaGreatDoorC
import Derived.Test.YtlnobeojgifojaaGreatDoorCC
import Derived.Test.YtlnobeojgifojaaGreatDoorCE
import Derived.Test.YtlnobeojgifojaaGreatDoorCF
namespace Go.Proofs.YtlnobeojgifojaaGreatDoor
section
open Go
def aV:List (Nat×FuncId):=[(255,6),(258,9),(156,10),(259,11),(203,12),(22,15),(262,18),(263,19),(266,22),(95,23),(267,24),(268,25),(269,26),(270,27),(97,28),(213,29),(34,34),(274,36),(40,37),(100,38),(101,39),(102,40),(103,41),(104,42),(105,43),(106,44),(107,45),(275,46),(276,47),(38,48),(277,49),(278,50),(279,51),(280,52),(108,53),(109,54),(110,55),(111,56),(221,57),(31,69),(52,70),(113,71),(114,72),(115,73),(116,74),(117,75),(118,76),(119,77),(120,78),(290,81),(291,82),(292,83),(293,84),(46,85),(47,86),(48,87),(294,89),(295,90),(296,91),(297,92),(45,93),(224,94),(225,95),(44,105),(37,106),(122,107),(123,108),(124,109),(125,110),(59,114),(307,116),(308,117),(57,118),(58,119),(127,124),(128,125),(314,145),(140,150),(146,161),(1,2),(252,3),(253,4),(254,5),(256,7),(257,8),(260,13),(261,14),(245,16),(158,17),(264,20),(265,21),(157,30),(271,31),(272,32),(273,33),(161,35),(32,58),(33,59),(281,60),(282,61),(283,62),(284,63),(285,64),(286,65),(287,66),(288,67),(289,68),(121,79),(50,80),(49,88),(298,96),(299,97),(300,98),(301,99),(302,100),(303,101),(304,102),(305,103),(306,104),(126,111),(56,112),(61,113),(60,115),(309,120),(310,121),(311,122),(312,123),(129,126),(130,127),(131,128),(132,129),(133,130),(134,131),(135,132),(136,133),(72,134),(73,135),(74,136),(75,137),(76,138),(77,139),(78,140),(79,141),(80,142),(81,143),(313,144),(315,146),(137,147),(138,148),(139,149),(141,151),(83,152),(84,153),(142,154),(143,155),(87,156),(88,157),(89,158),(144,159),(145,160),(147,162),(148,163),(91,164),(149,165),(150,166),(151,189)]
def xA (E:Nat→Ext):List (Nat×sP):=[(255,.code cZ),
 (258,.code iD),
 (156,.code dJ),
 (259,.code dB),
 (203,.code dw),
 (22,.code dK),
 (262,.code fD),
 (263,.code f7),
 (266,.code dU),
 (95,.code iE),
 (267,.code iX),
 (268,.code dV),
 (269,.code d7),
 (270,.code fB),
 (97,.code d6),
 (213,.code dx),
 (34,.code dC),
 (274,.code fC),
 (40,.code eu),
 (100,.code gY),
 (101,.code fS),
 (102,.code gG),
 (103,.code dW),
 (104,.code dX),
 (105,.code ee),
 (106,.code bX),
 (107,.code eA),
 (275,.code gD),
 (276,.code f4),
 (38,.code iB),
 (277,.code gA),
 (278,.code ey),
 (279,.code d8),
 (280,.code f5),
 (108,.code dG),
 (109,.code dA),
 (110,.code dz),
 (111,.code dq),
 (221,.code dt),
 (31,.code dT),
 (52,.code dE),
 (113,.code gX),
 (114,.code f8),
 (115,.code gF),
 (116,.code fZ),
 (117,.code d9),
 (118,.code jC),
 (119,.code gW),
 (120,.ext (E 120)),
 (290,.code fR),
 (291,.code bQ),
 (292,.code gC),
 (293,.code f0),
 (46,.code bO),
 (47,.code gB),
 (48,.ext (E 48)),
 (294,.code gv),
 (295,.code fY),
 (296,.code fP),
 (297,.code gE),
 (45,.code dI),
 (224,.code dH),
 (225,.code dr),
 (44,.code du),
 (37,.code bW),
 (122,.code iA),
 (123,.code ez),
 (124,.code ft),
 (125,.code bS),
 (59,.code fQ),
 (307,.code d5),
 (308,.code li),
 (57,.code dy),
 (58,.code dS),
 (127,.code eY),
 (128,.ext (E 128)),
 (314,.code kf),
 (140,.code eX),
 (146,.code eI),
 (42,.ext (E 42))]
theorem F6:Gn Tryz.prog aV=true:=by kernel_rfl
theorem DV:(Tryz.prog.funcs[6]?).bind (bK (bJ aV) Tryz.prog)=some cZ:=by kernel_rfl
theorem DU:(Tryz.prog.funcs[9]?).bind (bK (bJ aV) Tryz.prog)=some iD:=by kernel_rfl
theorem D4:(Tryz.prog.funcs[10]?).bind (bK (bJ aV) Tryz.prog)=some dJ:=by kernel_rfl
theorem DT:(Tryz.prog.funcs[11]?).bind (bK (bJ aV) Tryz.prog)=some dB:=by kernel_rfl
theorem D3:(Tryz.prog.funcs[12]?).bind (bK (bJ aV) Tryz.prog)=some dw:=by kernel_rfl
theorem Gm:(Tryz.prog.funcs[15]?).bind (bK (bJ aV) Tryz.prog)=some dK:=by kernel_rfl
theorem DS:(Tryz.prog.funcs[18]?).bind (bK (bJ aV) Tryz.prog)=some fD:=by kernel_rfl
theorem DR:(Tryz.prog.funcs[19]?).bind (bK (bJ aV) Tryz.prog)=some f7:=by kernel_rfl
theorem DQ:(Tryz.prog.funcs[22]?).bind (bK (bJ aV) Tryz.prog)=some dU:=by kernel_rfl
theorem F8:(Tryz.prog.funcs[23]?).bind (bK (bJ aV) Tryz.prog)=some iE:=by kernel_rfl
theorem DP:(Tryz.prog.funcs[24]?).bind (bK (bJ aV) Tryz.prog)=some iX:=by kernel_rfl
theorem DO:(Tryz.prog.funcs[25]?).bind (bK (bJ aV) Tryz.prog)=some dV:=by kernel_rfl
theorem DN:(Tryz.prog.funcs[26]?).bind (bK (bJ aV) Tryz.prog)=some d7:=by kernel_rfl
theorem DM:(Tryz.prog.funcs[27]?).bind (bK (bJ aV) Tryz.prog)=some fB:=by kernel_rfl
theorem F7:(Tryz.prog.funcs[28]?).bind (bK (bJ aV) Tryz.prog)=some d6:=by kernel_rfl
theorem DZ:(Tryz.prog.funcs[29]?).bind (bK (bJ aV) Tryz.prog)=some dx:=by kernel_rfl
theorem Gk:(Tryz.prog.funcs[34]?).bind (bK (bJ aV) Tryz.prog)=some dC:=by kernel_rfl
theorem DL:(Tryz.prog.funcs[36]?).bind (bK (bJ aV) Tryz.prog)=some fC:=by kernel_rfl
theorem Gh:(Tryz.prog.funcs[37]?).bind (bK (bJ aV) Tryz.prog)=some eu:=by kernel_rfl
theorem Ev:(Tryz.prog.funcs[38]?).bind (bK (bJ aV) Tryz.prog)=some gY:=by kernel_rfl
theorem Eu:(Tryz.prog.funcs[39]?).bind (bK (bJ aV) Tryz.prog)=some fS:=by kernel_rfl
theorem Et:(Tryz.prog.funcs[40]?).bind (bK (bJ aV) Tryz.prog)=some gG:=by kernel_rfl
theorem Es:(Tryz.prog.funcs[41]?).bind (bK (bJ aV) Tryz.prog)=some dW:=by kernel_rfl
theorem Er:(Tryz.prog.funcs[42]?).bind (bK (bJ aV) Tryz.prog)=some dX:=by kernel_rfl
theorem Ep:(Tryz.prog.funcs[43]?).bind (bK (bJ aV) Tryz.prog)=some ee:=by kernel_rfl
theorem Eo:(Tryz.prog.funcs[44]?).bind (bK (bJ aV) Tryz.prog)=some bX:=by kernel_rfl
theorem En:(Tryz.prog.funcs[45]?).bind (bK (bJ aV) Tryz.prog)=some eA:=by kernel_rfl
theorem DK:(Tryz.prog.funcs[46]?).bind (bK (bJ aV) Tryz.prog)=some gD:=by kernel_rfl
theorem DJ:(Tryz.prog.funcs[47]?).bind (bK (bJ aV) Tryz.prog)=some f4:=by kernel_rfl
theorem Gi:(Tryz.prog.funcs[48]?).bind (bK (bJ aV) Tryz.prog)=some iB:=by kernel_rfl
theorem DI:(Tryz.prog.funcs[49]?).bind (bK (bJ aV) Tryz.prog)=some gA:=by kernel_rfl
theorem DH:(Tryz.prog.funcs[50]?).bind (bK (bJ aV) Tryz.prog)=some ey:=by kernel_rfl
theorem DG:(Tryz.prog.funcs[51]?).bind (bK (bJ aV) Tryz.prog)=some d8:=by kernel_rfl
theorem DF:(Tryz.prog.funcs[52]?).bind (bK (bJ aV) Tryz.prog)=some f5:=by kernel_rfl
theorem Em:(Tryz.prog.funcs[53]?).bind (bK (bJ aV) Tryz.prog)=some dG:=by kernel_rfl
theorem El:(Tryz.prog.funcs[54]?).bind (bK (bJ aV) Tryz.prog)=some dA:=by kernel_rfl
theorem Ek:(Tryz.prog.funcs[55]?).bind (bK (bJ aV) Tryz.prog)=some dz:=by kernel_rfl
theorem Ej:(Tryz.prog.funcs[56]?).bind (bK (bJ aV) Tryz.prog)=some dq:=by kernel_rfl
theorem DY:(Tryz.prog.funcs[57]?).bind (bK (bJ aV) Tryz.prog)=some dt:=by kernel_rfl
theorem Gl:(Tryz.prog.funcs[69]?).bind (bK (bJ aV) Tryz.prog)=some dT:=by kernel_rfl
theorem Gc:(Tryz.prog.funcs[70]?).bind (bK (bJ aV) Tryz.prog)=some dE:=by kernel_rfl
theorem Ei:(Tryz.prog.funcs[71]?).bind (bK (bJ aV) Tryz.prog)=some gX:=by kernel_rfl
theorem Eh:(Tryz.prog.funcs[72]?).bind (bK (bJ aV) Tryz.prog)=some f8:=by kernel_rfl
theorem Eg:(Tryz.prog.funcs[73]?).bind (bK (bJ aV) Tryz.prog)=some gF:=by kernel_rfl
theorem Ef:(Tryz.prog.funcs[74]?).bind (bK (bJ aV) Tryz.prog)=some fZ:=by kernel_rfl
theorem Ee:(Tryz.prog.funcs[75]?).bind (bK (bJ aV) Tryz.prog)=some d9:=by kernel_rfl
theorem Ed:(Tryz.prog.funcs[76]?).bind (bK (bJ aV) Tryz.prog)=some jC:=by kernel_rfl
theorem Ec:(Tryz.prog.funcs[77]?).bind (bK (bJ aV) Tryz.prog)=some gW:=by kernel_rfl
theorem DE:(Tryz.prog.funcs[81]?).bind (bK (bJ aV) Tryz.prog)=some fR:=by kernel_rfl
theorem DD:(Tryz.prog.funcs[82]?).bind (bK (bJ aV) Tryz.prog)=some bQ:=by kernel_rfl
theorem DC:(Tryz.prog.funcs[83]?).bind (bK (bJ aV) Tryz.prog)=some gC:=by kernel_rfl
theorem DB:(Tryz.prog.funcs[84]?).bind (bK (bJ aV) Tryz.prog)=some f0:=by kernel_rfl
theorem Ge:(Tryz.prog.funcs[85]?).bind (bK (bJ aV) Tryz.prog)=some bO:=by kernel_rfl
theorem Gd:(Tryz.prog.funcs[86]?).bind (bK (bJ aV) Tryz.prog)=some gB:=by kernel_rfl
theorem DA:(Tryz.prog.funcs[89]?).bind (bK (bJ aV) Tryz.prog)=some gv:=by kernel_rfl
theorem Dz:(Tryz.prog.funcs[90]?).bind (bK (bJ aV) Tryz.prog)=some fY:=by kernel_rfl
theorem Dy:(Tryz.prog.funcs[91]?).bind (bK (bJ aV) Tryz.prog)=some fP:=by kernel_rfl
theorem Dx:(Tryz.prog.funcs[92]?).bind (bK (bJ aV) Tryz.prog)=some gE:=by kernel_rfl
theorem Gf:(Tryz.prog.funcs[93]?).bind (bK (bJ aV) Tryz.prog)=some dI:=by kernel_rfl
theorem DX:(Tryz.prog.funcs[94]?).bind (bK (bJ aV) Tryz.prog)=some dH:=by kernel_rfl
theorem DW:(Tryz.prog.funcs[95]?).bind (bK (bJ aV) Tryz.prog)=some dr:=by kernel_rfl
theorem Gg:(Tryz.prog.funcs[105]?).bind (bK (bJ aV) Tryz.prog)=some du:=by kernel_rfl
theorem Gj:(Tryz.prog.funcs[106]?).bind (bK (bJ aV) Tryz.prog)=some bW:=by kernel_rfl
theorem Eb:(Tryz.prog.funcs[107]?).bind (bK (bJ aV) Tryz.prog)=some iA:=by kernel_rfl
theorem Ea:(Tryz.prog.funcs[108]?).bind (bK (bJ aV) Tryz.prog)=some ez:=by kernel_rfl
theorem D9:(Tryz.prog.funcs[109]?).bind (bK (bJ aV) Tryz.prog)=some ft:=by kernel_rfl
theorem D8:(Tryz.prog.funcs[110]?).bind (bK (bJ aV) Tryz.prog)=some bS:=by kernel_rfl
theorem F9:(Tryz.prog.funcs[114]?).bind (bK (bJ aV) Tryz.prog)=some fQ:=by kernel_rfl
theorem Dw:(Tryz.prog.funcs[116]?).bind (bK (bJ aV) Tryz.prog)=some d5:=by kernel_rfl
theorem Dv:(Tryz.prog.funcs[117]?).bind (bK (bJ aV) Tryz.prog)=some li:=by kernel_rfl
theorem Gb:(Tryz.prog.funcs[118]?).bind (bK (bJ aV) Tryz.prog)=some dy:=by kernel_rfl
theorem Ga:(Tryz.prog.funcs[119]?).bind (bK (bJ aV) Tryz.prog)=some dS:=by kernel_rfl
theorem D7:(Tryz.prog.funcs[124]?).bind (bK (bJ aV) Tryz.prog)=some eY:=by kernel_rfl
theorem Du:(Tryz.prog.funcs[145]?).bind (bK (bJ aV) Tryz.prog)=some kf:=by kernel_rfl
theorem D6:(Tryz.prog.funcs[150]?).bind (bK (bJ aV) Tryz.prog)=some eX:=by kernel_rfl
theorem D5:(Tryz.prog.funcs[161]?).bind (bK (bJ aV) Tryz.prog)=some eI:=by kernel_rfl
theorem AO (E:Nat→Ext):qY Tryz.prog aV (xA E) :=
 ⟨.inr ⟨6,by kernel_rfl,DV⟩,
 .inr ⟨9,by kernel_rfl,DU⟩,
 .inr ⟨10,by kernel_rfl,D4⟩,
 .inr ⟨11,by kernel_rfl,DT⟩,
 .inr ⟨12,by kernel_rfl,D3⟩,
 .inr ⟨15,by kernel_rfl,Gm⟩,
 .inr ⟨18,by kernel_rfl,DS⟩,
 .inr ⟨19,by kernel_rfl,DR⟩,
 .inr ⟨22,by kernel_rfl,DQ⟩,
 .inr ⟨23,by kernel_rfl,F8⟩,
 .inr ⟨24,by kernel_rfl,DP⟩,
 .inr ⟨25,by kernel_rfl,DO⟩,
 .inr ⟨26,by kernel_rfl,DN⟩,
 .inr ⟨27,by kernel_rfl,DM⟩,
 .inr ⟨28,by kernel_rfl,F7⟩,
 .inr ⟨29,by kernel_rfl,DZ⟩,
 .inr ⟨34,by kernel_rfl,Gk⟩,
 .inr ⟨36,by kernel_rfl,DL⟩,
 .inr ⟨37,by kernel_rfl,Gh⟩,
 .inr ⟨38,by kernel_rfl,Ev⟩,
 .inr ⟨39,by kernel_rfl,Eu⟩,
 .inr ⟨40,by kernel_rfl,Et⟩,
 .inr ⟨41,by kernel_rfl,Es⟩,
 .inr ⟨42,by kernel_rfl,Er⟩,
 .inr ⟨43,by kernel_rfl,Ep⟩,
 .inr ⟨44,by kernel_rfl,Eo⟩,
 .inr ⟨45,by kernel_rfl,En⟩,
 .inr ⟨46,by kernel_rfl,DK⟩,
 .inr ⟨47,by kernel_rfl,DJ⟩,
 .inr ⟨48,by kernel_rfl,Gi⟩,
 .inr ⟨49,by kernel_rfl,DI⟩,
 .inr ⟨50,by kernel_rfl,DH⟩,
 .inr ⟨51,by kernel_rfl,DG⟩,
 .inr ⟨52,by kernel_rfl,DF⟩,
 .inr ⟨53,by kernel_rfl,Em⟩,
 .inr ⟨54,by kernel_rfl,El⟩,
 .inr ⟨55,by kernel_rfl,Ek⟩,
 .inr ⟨56,by kernel_rfl,Ej⟩,
 .inr ⟨57,by kernel_rfl,DY⟩,
 .inr ⟨69,by kernel_rfl,Gl⟩,
 .inr ⟨70,by kernel_rfl,Gc⟩,
 .inr ⟨71,by kernel_rfl,Ei⟩,
 .inr ⟨72,by kernel_rfl,Eh⟩,
 .inr ⟨73,by kernel_rfl,Eg⟩,
 .inr ⟨74,by kernel_rfl,Ef⟩,
 .inr ⟨75,by kernel_rfl,Ee⟩,
 .inr ⟨76,by kernel_rfl,Ed⟩,
 .inr ⟨77,by kernel_rfl,Ec⟩,
 .inr ⟨81,by kernel_rfl,DE⟩,
 .inr ⟨82,by kernel_rfl,DD⟩,
 .inr ⟨83,by kernel_rfl,DC⟩,
 .inr ⟨84,by kernel_rfl,DB⟩,
 .inr ⟨85,by kernel_rfl,Ge⟩,
 .inr ⟨86,by kernel_rfl,Gd⟩,
 .inr ⟨89,by kernel_rfl,DA⟩,
 .inr ⟨90,by kernel_rfl,Dz⟩,
 .inr ⟨91,by kernel_rfl,Dy⟩,
 .inr ⟨92,by kernel_rfl,Dx⟩,
 .inr ⟨93,by kernel_rfl,Gf⟩,
 .inr ⟨94,by kernel_rfl,DX⟩,
 .inr ⟨95,by kernel_rfl,DW⟩,
 .inr ⟨105,by kernel_rfl,Gg⟩,
 .inr ⟨106,by kernel_rfl,Gj⟩,
 .inr ⟨107,by kernel_rfl,Eb⟩,
 .inr ⟨108,by kernel_rfl,Ea⟩,
 .inr ⟨109,by kernel_rfl,D9⟩,
 .inr ⟨110,by kernel_rfl,D8⟩,
 .inr ⟨114,by kernel_rfl,F9⟩,
 .inr ⟨116,by kernel_rfl,Dw⟩,
 .inr ⟨117,by kernel_rfl,Dv⟩,
 .inr ⟨118,by kernel_rfl,Gb⟩,
 .inr ⟨119,by kernel_rfl,Ga⟩,
 .inr ⟨124,by kernel_rfl,D7⟩,
 .inr ⟨145,by kernel_rfl,Du⟩,
 .inr ⟨150,by kernel_rfl,D6⟩,
 .inr ⟨161,by kernel_rfl,D5⟩,trivial⟩
end
end Go.Proofs.YtlnobeojgifojaaGreatDoor
