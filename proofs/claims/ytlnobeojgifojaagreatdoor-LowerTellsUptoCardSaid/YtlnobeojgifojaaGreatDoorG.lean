/- The seat's functions: numbers, and their code. -/
import Derived.Test.YtlnobeojgifojaaGreatDoorRows
import Derived.Test.YtlnobeojgifojaaGreatDoorA7
import Derived.Test.YtlnobeojgifojaaGreatDoorC
import Derived.Test.YtlnobeojgifojaaGreatDoorCC
import Derived.Test.YtlnobeojgifojaaGreatDoorCE
import Derived.Test.YtlnobeojgifojaaGreatDoorCF
namespace Go.Proofs.YtlnobeojgifojaaGreatDoor
section
open Go
def aZ:List (Nat×FuncId):=[(254,5),(258,9),(156,10),(259,11),(22,15),(245,16),(158,17),(262,18),(263,19),(266,22),(95,23),(267,24),(268,25),(269,26),(270,27),(97,28),(157,30),(34,34),(161,35),(274,36),(40,37),(100,38),(101,39),(102,40),(103,41),(104,42),(105,43),(106,44),(107,45),(275,46),(276,47),(38,48),(277,49),(278,50),(279,51),(280,52),(108,53),(109,54),(110,55),(111,56),(32,58),(33,59),(31,69),(52,70),(113,71),(114,72),(115,73),(116,74),(117,75),(118,76),(119,77),(120,78),(290,81),(291,82),(292,83),(293,84),(46,85),(47,86),(48,87),(294,89),(295,90),(296,91),(297,92),(45,93),(44,105),(37,106),(122,107),(123,108),(124,109),(125,110),(59,114),(307,116),(308,117),(57,118),(58,119),(127,124),(128,125),(314,145),(140,150),(146,161),(1,2),(252,3),(253,4),(255,6),(256,7),(257,8),(203,12),(260,13),(261,14),(264,20),(265,21),(213,29),(271,31),(272,32),(273,33),(221,57),(281,60),(282,61),(283,62),(284,63),(285,64),(286,65),(287,66),(288,67),(289,68),(121,79),(50,80),(49,88),(224,94),(225,95),(298,96),(299,97),(300,98),(301,99),(302,100),(303,101),(304,102),(305,103),(306,104),(126,111),(56,112),(61,113),(60,115),(309,120),(310,121),(311,122),(312,123),(129,126),(130,127),(131,128),(132,129),(133,130),(134,131),(135,132),(136,133),(72,134),(73,135),(74,136),(75,137),(76,138),(77,139),(78,140),(79,141),(80,142),(81,143),(313,144),(315,146),(137,147),(138,148),(139,149),(141,151),(83,152),(84,153),(142,154),(143,155),(87,156),(88,157),(89,158),(144,159),(145,160),(147,162),(148,163),(91,164),(149,165),(150,166),(151,189)]
def xL (E:Nat→Ext):List (Nat×sV):=[(254,.code cQ),
 (258,.code iE),
 (156,.code dL),
 (259,.code dD),
 (22,.code dM),
 (245,.code dv),
 (158,.code dt),
 (262,.code fF),
 (263,.code f7),
 (266,.code dW),
 (95,.code iF),
 (267,.code iZ),
 (268,.code dX),
 (269,.code ee),
 (270,.code fD),
 (97,.code d9),
 (157,.code dx),
 (34,.code dE),
 (161,.code dy),
 (274,.code fE),
 (40,.code eA),
 (100,.code gY),
 (101,.code fT),
 (102,.code gF),
 (103,.code dY),
 (104,.code dZ),
 (105,.code ei),
 (106,.code bY),
 (107,.code eE),
 (275,.code gC),
 (276,.code f4),
 (38,.code iD),
 (277,.code gv),
 (278,.code eC),
 (279,.code ef),
 (280,.code f6),
 (108,.code dI),
 (109,.code dB),
 (110,.code dA),
 (111,.code du),
 (32,.code dC),
 (33,.code dJ),
 (31,.code dV),
 (52,.code dG),
 (113,.code gX),
 (114,.code f8),
 (115,.code gE),
 (116,.code fZ),
 (117,.code eh),
 (118,.code jG),
 (119,.code gW),
 (120,.ext (E 120)),
 (290,.code fS),
 (291,.code bR),
 (292,.code gB),
 (293,.code f0),
 (46,.code bQ),
 (47,.code gA),
 (48,.ext (E 48)),
 (294,.code gu),
 (295,.code fY),
 (296,.code fQ),
 (297,.code gD),
 (45,.code dK),
 (44,.code dw),
 (37,.code bX),
 (122,.code iB),
 (123,.code eD),
 (124,.code fA),
 (125,.code bT),
 (59,.code fR),
 (307,.code d8),
 (308,.code lr),
 (57,.code dz),
 (58,.code dU),
 (127,.code ff),
 (128,.ext (E 128)),
 (314,.code kj),
 (140,.code fe),
 (146,.code eM),
 (42,.ext (E 42))]
theorem Gg:GA Tryz.prog aZ=true:=by kernel_rfl
theorem D9:(Tryz.prog.funcs[5]?).bind (bM (bL aZ) Tryz.prog)=some cQ:=by kernel_rfl
theorem D8:(Tryz.prog.funcs[9]?).bind (bM (bL aZ) Tryz.prog)=some iE:=by kernel_rfl
theorem Ee:(Tryz.prog.funcs[10]?).bind (bM (bL aZ) Tryz.prog)=some dL:=by kernel_rfl
theorem D7:(Tryz.prog.funcs[11]?).bind (bM (bL aZ) Tryz.prog)=some dD:=by kernel_rfl
theorem Gz:(Tryz.prog.funcs[15]?).bind (bM (bL aZ) Tryz.prog)=some dM:=by kernel_rfl
theorem Ea:(Tryz.prog.funcs[16]?).bind (bM (bL aZ) Tryz.prog)=some dv:=by kernel_rfl
theorem Ec:(Tryz.prog.funcs[17]?).bind (bM (bL aZ) Tryz.prog)=some dt:=by kernel_rfl
theorem D6:(Tryz.prog.funcs[18]?).bind (bM (bL aZ) Tryz.prog)=some fF:=by kernel_rfl
theorem D5:(Tryz.prog.funcs[19]?).bind (bM (bL aZ) Tryz.prog)=some f7:=by kernel_rfl
theorem D4:(Tryz.prog.funcs[22]?).bind (bM (bL aZ) Tryz.prog)=some dW:=by kernel_rfl
theorem Gi:(Tryz.prog.funcs[23]?).bind (bM (bL aZ) Tryz.prog)=some iF:=by kernel_rfl
theorem D3:(Tryz.prog.funcs[24]?).bind (bM (bL aZ) Tryz.prog)=some iZ:=by kernel_rfl
theorem DZ:(Tryz.prog.funcs[25]?).bind (bM (bL aZ) Tryz.prog)=some dX:=by kernel_rfl
theorem DY:(Tryz.prog.funcs[26]?).bind (bM (bL aZ) Tryz.prog)=some ee:=by kernel_rfl
theorem DX:(Tryz.prog.funcs[27]?).bind (bM (bL aZ) Tryz.prog)=some fD:=by kernel_rfl
theorem Gh:(Tryz.prog.funcs[28]?).bind (bM (bL aZ) Tryz.prog)=some d9:=by kernel_rfl
theorem Ed:(Tryz.prog.funcs[30]?).bind (bM (bL aZ) Tryz.prog)=some dx:=by kernel_rfl
theorem Gv:(Tryz.prog.funcs[34]?).bind (bM (bL aZ) Tryz.prog)=some dE:=by kernel_rfl
theorem Eb:(Tryz.prog.funcs[35]?).bind (bM (bL aZ) Tryz.prog)=some dy:=by kernel_rfl
theorem DW:(Tryz.prog.funcs[36]?).bind (bM (bL aZ) Tryz.prog)=some fE:=by kernel_rfl
theorem Gs:(Tryz.prog.funcs[37]?).bind (bM (bL aZ) Tryz.prog)=some eA:=by kernel_rfl
theorem EG:(Tryz.prog.funcs[38]?).bind (bM (bL aZ) Tryz.prog)=some gY:=by kernel_rfl
theorem EF:(Tryz.prog.funcs[39]?).bind (bM (bL aZ) Tryz.prog)=some fT:=by kernel_rfl
theorem EE:(Tryz.prog.funcs[40]?).bind (bM (bL aZ) Tryz.prog)=some gF:=by kernel_rfl
theorem ED:(Tryz.prog.funcs[41]?).bind (bM (bL aZ) Tryz.prog)=some dY:=by kernel_rfl
theorem EC:(Tryz.prog.funcs[42]?).bind (bM (bL aZ) Tryz.prog)=some dZ:=by kernel_rfl
theorem EB:(Tryz.prog.funcs[43]?).bind (bM (bL aZ) Tryz.prog)=some ei:=by kernel_rfl
theorem EA:(Tryz.prog.funcs[44]?).bind (bM (bL aZ) Tryz.prog)=some bY:=by kernel_rfl
theorem Ez:(Tryz.prog.funcs[45]?).bind (bM (bL aZ) Tryz.prog)=some eE:=by kernel_rfl
theorem DV:(Tryz.prog.funcs[46]?).bind (bM (bL aZ) Tryz.prog)=some gC:=by kernel_rfl
theorem DU:(Tryz.prog.funcs[47]?).bind (bM (bL aZ) Tryz.prog)=some f4:=by kernel_rfl
theorem Gt:(Tryz.prog.funcs[48]?).bind (bM (bL aZ) Tryz.prog)=some iD:=by kernel_rfl
theorem DT:(Tryz.prog.funcs[49]?).bind (bM (bL aZ) Tryz.prog)=some gv:=by kernel_rfl
theorem DS:(Tryz.prog.funcs[50]?).bind (bM (bL aZ) Tryz.prog)=some eC:=by kernel_rfl
theorem DR:(Tryz.prog.funcs[51]?).bind (bM (bL aZ) Tryz.prog)=some ef:=by kernel_rfl
theorem DQ:(Tryz.prog.funcs[52]?).bind (bM (bL aZ) Tryz.prog)=some f6:=by kernel_rfl
theorem Ey:(Tryz.prog.funcs[53]?).bind (bM (bL aZ) Tryz.prog)=some dI:=by kernel_rfl
theorem Ew:(Tryz.prog.funcs[54]?).bind (bM (bL aZ) Tryz.prog)=some dB:=by kernel_rfl
theorem Ev:(Tryz.prog.funcs[55]?).bind (bM (bL aZ) Tryz.prog)=some dA:=by kernel_rfl
theorem Eu:(Tryz.prog.funcs[56]?).bind (bM (bL aZ) Tryz.prog)=some du:=by kernel_rfl
theorem Gx:(Tryz.prog.funcs[58]?).bind (bM (bL aZ) Tryz.prog)=some dC:=by kernel_rfl
theorem Gw:(Tryz.prog.funcs[59]?).bind (bM (bL aZ) Tryz.prog)=some dJ:=by kernel_rfl
theorem Gy:(Tryz.prog.funcs[69]?).bind (bM (bL aZ) Tryz.prog)=some dV:=by kernel_rfl
theorem Gm:(Tryz.prog.funcs[70]?).bind (bM (bL aZ) Tryz.prog)=some dG:=by kernel_rfl
theorem Et:(Tryz.prog.funcs[71]?).bind (bM (bL aZ) Tryz.prog)=some gX:=by kernel_rfl
theorem Es:(Tryz.prog.funcs[72]?).bind (bM (bL aZ) Tryz.prog)=some f8:=by kernel_rfl
theorem Er:(Tryz.prog.funcs[73]?).bind (bM (bL aZ) Tryz.prog)=some gE:=by kernel_rfl
theorem Ep:(Tryz.prog.funcs[74]?).bind (bM (bL aZ) Tryz.prog)=some fZ:=by kernel_rfl
theorem Eo:(Tryz.prog.funcs[75]?).bind (bM (bL aZ) Tryz.prog)=some eh:=by kernel_rfl
theorem En:(Tryz.prog.funcs[76]?).bind (bM (bL aZ) Tryz.prog)=some jG:=by kernel_rfl
theorem Em:(Tryz.prog.funcs[77]?).bind (bM (bL aZ) Tryz.prog)=some gW:=by kernel_rfl
theorem DP:(Tryz.prog.funcs[81]?).bind (bM (bL aZ) Tryz.prog)=some fS:=by kernel_rfl
theorem DO:(Tryz.prog.funcs[82]?).bind (bM (bL aZ) Tryz.prog)=some bR:=by kernel_rfl
theorem DN:(Tryz.prog.funcs[83]?).bind (bM (bL aZ) Tryz.prog)=some gB:=by kernel_rfl
theorem DM:(Tryz.prog.funcs[84]?).bind (bM (bL aZ) Tryz.prog)=some f0:=by kernel_rfl
theorem Gp:(Tryz.prog.funcs[85]?).bind (bM (bL aZ) Tryz.prog)=some bQ:=by kernel_rfl
theorem Gn:(Tryz.prog.funcs[86]?).bind (bM (bL aZ) Tryz.prog)=some gA:=by kernel_rfl
theorem DL:(Tryz.prog.funcs[89]?).bind (bM (bL aZ) Tryz.prog)=some gu:=by kernel_rfl
theorem DK:(Tryz.prog.funcs[90]?).bind (bM (bL aZ) Tryz.prog)=some fY:=by kernel_rfl
theorem DJ:(Tryz.prog.funcs[91]?).bind (bM (bL aZ) Tryz.prog)=some fQ:=by kernel_rfl
theorem DI:(Tryz.prog.funcs[92]?).bind (bM (bL aZ) Tryz.prog)=some gD:=by kernel_rfl
theorem Gq:(Tryz.prog.funcs[93]?).bind (bM (bL aZ) Tryz.prog)=some dK:=by kernel_rfl
theorem Gr:(Tryz.prog.funcs[105]?).bind (bM (bL aZ) Tryz.prog)=some dw:=by kernel_rfl
theorem Gu:(Tryz.prog.funcs[106]?).bind (bM (bL aZ) Tryz.prog)=some bX:=by kernel_rfl
theorem El:(Tryz.prog.funcs[107]?).bind (bM (bL aZ) Tryz.prog)=some iB:=by kernel_rfl
theorem Ek:(Tryz.prog.funcs[108]?).bind (bM (bL aZ) Tryz.prog)=some eD:=by kernel_rfl
theorem Ej:(Tryz.prog.funcs[109]?).bind (bM (bL aZ) Tryz.prog)=some fA:=by kernel_rfl
theorem Ei:(Tryz.prog.funcs[110]?).bind (bM (bL aZ) Tryz.prog)=some bT:=by kernel_rfl
theorem Gj:(Tryz.prog.funcs[114]?).bind (bM (bL aZ) Tryz.prog)=some fR:=by kernel_rfl
theorem DH:(Tryz.prog.funcs[116]?).bind (bM (bL aZ) Tryz.prog)=some d8:=by kernel_rfl
theorem DG:(Tryz.prog.funcs[117]?).bind (bM (bL aZ) Tryz.prog)=some lr:=by kernel_rfl
theorem Gl:(Tryz.prog.funcs[118]?).bind (bM (bL aZ) Tryz.prog)=some dz:=by kernel_rfl
theorem Gk:(Tryz.prog.funcs[119]?).bind (bM (bL aZ) Tryz.prog)=some dU:=by kernel_rfl
theorem Eh:(Tryz.prog.funcs[124]?).bind (bM (bL aZ) Tryz.prog)=some ff:=by kernel_rfl
theorem DF:(Tryz.prog.funcs[145]?).bind (bM (bL aZ) Tryz.prog)=some kj:=by kernel_rfl
theorem Eg:(Tryz.prog.funcs[150]?).bind (bM (bL aZ) Tryz.prog)=some fe:=by kernel_rfl
theorem Ef:(Tryz.prog.funcs[161]?).bind (bM (bL aZ) Tryz.prog)=some eM:=by kernel_rfl
theorem A2 (E:Nat→Ext):re Tryz.prog aZ (xL E) :=
 ⟨.inr ⟨5,by kernel_rfl,D9⟩,
 .inr ⟨9,by kernel_rfl,D8⟩,
 .inr ⟨10,by kernel_rfl,Ee⟩,
 .inr ⟨11,by kernel_rfl,D7⟩,
 .inr ⟨15,by kernel_rfl,Gz⟩,
 .inr ⟨16,by kernel_rfl,Ea⟩,
 .inr ⟨17,by kernel_rfl,Ec⟩,
 .inr ⟨18,by kernel_rfl,D6⟩,
 .inr ⟨19,by kernel_rfl,D5⟩,
 .inr ⟨22,by kernel_rfl,D4⟩,
 .inr ⟨23,by kernel_rfl,Gi⟩,
 .inr ⟨24,by kernel_rfl,D3⟩,
 .inr ⟨25,by kernel_rfl,DZ⟩,
 .inr ⟨26,by kernel_rfl,DY⟩,
 .inr ⟨27,by kernel_rfl,DX⟩,
 .inr ⟨28,by kernel_rfl,Gh⟩,
 .inr ⟨30,by kernel_rfl,Ed⟩,
 .inr ⟨34,by kernel_rfl,Gv⟩,
 .inr ⟨35,by kernel_rfl,Eb⟩,
 .inr ⟨36,by kernel_rfl,DW⟩,
 .inr ⟨37,by kernel_rfl,Gs⟩,
 .inr ⟨38,by kernel_rfl,EG⟩,
 .inr ⟨39,by kernel_rfl,EF⟩,
 .inr ⟨40,by kernel_rfl,EE⟩,
 .inr ⟨41,by kernel_rfl,ED⟩,
 .inr ⟨42,by kernel_rfl,EC⟩,
 .inr ⟨43,by kernel_rfl,EB⟩,
 .inr ⟨44,by kernel_rfl,EA⟩,
 .inr ⟨45,by kernel_rfl,Ez⟩,
 .inr ⟨46,by kernel_rfl,DV⟩,
 .inr ⟨47,by kernel_rfl,DU⟩,
 .inr ⟨48,by kernel_rfl,Gt⟩,
 .inr ⟨49,by kernel_rfl,DT⟩,
 .inr ⟨50,by kernel_rfl,DS⟩,
 .inr ⟨51,by kernel_rfl,DR⟩,
 .inr ⟨52,by kernel_rfl,DQ⟩,
 .inr ⟨53,by kernel_rfl,Ey⟩,
 .inr ⟨54,by kernel_rfl,Ew⟩,
 .inr ⟨55,by kernel_rfl,Ev⟩,
 .inr ⟨56,by kernel_rfl,Eu⟩,
 .inr ⟨58,by kernel_rfl,Gx⟩,
 .inr ⟨59,by kernel_rfl,Gw⟩,
 .inr ⟨69,by kernel_rfl,Gy⟩,
 .inr ⟨70,by kernel_rfl,Gm⟩,
 .inr ⟨71,by kernel_rfl,Et⟩,
 .inr ⟨72,by kernel_rfl,Es⟩,
 .inr ⟨73,by kernel_rfl,Er⟩,
 .inr ⟨74,by kernel_rfl,Ep⟩,
 .inr ⟨75,by kernel_rfl,Eo⟩,
 .inr ⟨76,by kernel_rfl,En⟩,
 .inr ⟨77,by kernel_rfl,Em⟩,
 .inr ⟨81,by kernel_rfl,DP⟩,
 .inr ⟨82,by kernel_rfl,DO⟩,
 .inr ⟨83,by kernel_rfl,DN⟩,
 .inr ⟨84,by kernel_rfl,DM⟩,
 .inr ⟨85,by kernel_rfl,Gp⟩,
 .inr ⟨86,by kernel_rfl,Gn⟩,
 .inr ⟨89,by kernel_rfl,DL⟩,
 .inr ⟨90,by kernel_rfl,DK⟩,
 .inr ⟨91,by kernel_rfl,DJ⟩,
 .inr ⟨92,by kernel_rfl,DI⟩,
 .inr ⟨93,by kernel_rfl,Gq⟩,
 .inr ⟨105,by kernel_rfl,Gr⟩,
 .inr ⟨106,by kernel_rfl,Gu⟩,
 .inr ⟨107,by kernel_rfl,El⟩,
 .inr ⟨108,by kernel_rfl,Ek⟩,
 .inr ⟨109,by kernel_rfl,Ej⟩,
 .inr ⟨110,by kernel_rfl,Ei⟩,
 .inr ⟨114,by kernel_rfl,Gj⟩,
 .inr ⟨116,by kernel_rfl,DH⟩,
 .inr ⟨117,by kernel_rfl,DG⟩,
 .inr ⟨118,by kernel_rfl,Gl⟩,
 .inr ⟨119,by kernel_rfl,Gk⟩,
 .inr ⟨124,by kernel_rfl,Eh⟩,
 .inr ⟨145,by kernel_rfl,DF⟩,
 .inr ⟨150,by kernel_rfl,Eg⟩,
 .inr ⟨161,by kernel_rfl,Ef⟩,trivial⟩
end
end Go.Proofs.YtlnobeojgifojaaGreatDoor
