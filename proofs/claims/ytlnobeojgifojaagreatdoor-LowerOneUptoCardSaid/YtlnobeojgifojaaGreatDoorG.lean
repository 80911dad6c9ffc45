/- The seat's functions: numbers, and their code. Written by program. -/
import Derived.Test.YtlnobeojgifojaaGreatDoorRows
import Derived.Test.YtlnobeojgifojaaGreatDoorA7
import Derived.Test.YtlnobeojgifojaaGreatDoorC
import Derived.Test.YtlnobeojgifojaaGreatDoorCC
import Derived.Test.YtlnobeojgifojaaGreatDoorCE
import Derived.Test.YtlnobeojgifojaaGreatDoorCF
namespace Go.Proofs.YtlnobeojgifojaaGreatDoor
section
open Go
def aV:List (Nat×FuncId):=[(257,8),(258,9),(259,11),(245,16),(262,18),(263,19),(266,22),(95,23),(267,24),(268,25),(269,26),(270,27),(274,36),(40,37),(100,38),(101,39),(102,40),(103,41),(104,42),(105,43),(106,44),(107,45),(275,46),(276,47),(38,48),(277,49),(278,50),(279,51),(280,52),(52,70),(113,71),(114,72),(115,73),(116,74),(117,75),(118,76),(119,77),(120,78),(290,81),(291,82),(292,83),(293,84),(46,85),(47,86),(48,87),(294,89),(295,90),(296,91),(297,92),(37,106),(122,107),(123,108),(124,109),(125,110),(59,114),(307,116),(308,117),(127,124),(128,125),(314,145),(140,150),(146,161),(1,2),(252,3),(253,4),(254,5),(255,6),(256,7),(156,10),(203,12),(260,13),(261,14),(22,15),(158,17),(264,20),(265,21),(97,28),(213,29),(157,30),(271,31),(272,32),(273,33),(34,34),(161,35),(108,53),(109,54),(110,55),(111,56),(221,57),(32,58),(33,59),(281,60),(282,61),(283,62),(284,63),(285,64),(286,65),(287,66),(288,67),(289,68),(31,69),(121,79),(50,80),(49,88),(45,93),(224,94),(225,95),(298,96),(299,97),(300,98),(301,99),(302,100),(303,101),(304,102),(305,103),(306,104),(44,105),(126,111),(56,112),(61,113),(60,115),(57,118),(58,119),(309,120),(310,121),(311,122),(312,123),(129,126),(130,127),(131,128),(132,129),(133,130),(134,131),(135,132),(136,133),(72,134),(73,135),(74,136),(75,137),(76,138),(77,139),(78,140),(79,141),(80,142),(81,143),(313,144),(315,146),(137,147),(138,148),(139,149),(141,151),(83,152),(84,153),(142,154),(143,155),(87,156),(88,157),(89,158),(144,159),(145,160),(147,162),(148,163),(91,164),(149,165),(150,166),(151,189)]
def uY (E:Nat→Ext):List (Nat×qD):=[(257,.code cG),
 (258,.code gj),
 (259,.code cS),
 (245,.code cN),
 (262,.code eD),
 (263,.code ff),
 (266,.code c7),
 (95,.code gk),
 (267,.code gL),
 (268,.code c8),
 (269,.code dr),
 (270,.code eA),
 (274,.code eC),
 (40,.code dJ),
 (100,.code fX),
 (101,.code eV),
 (102,.code fI),
 (103,.code c9),
 (104,.code dd),
 (105,.code dv),
 (106,.code bP),
 (107,.code dM),
 (275,.code fF),
 (276,.code fd),
 (38,.code gh),
 (277,.code fC),
 (278,.code dK),
 (279,.code dt),
 (280,.code fe),
 (52,.code cU),
 (113,.code fW),
 (114,.code fg),
 (115,.code fH),
 (116,.code eZ),
 (117,.code du),
 (118,.code iu),
 (119,.code fV),
 (120,.ext (E 120)),
 (290,.code eU),
 (291,.code bH),
 (292,.code fE),
 (293,.code fa),
 (46,.code bD),
 (47,.code fD),
 (48,.ext (E 48)),
 (294,.code fB),
 (295,.code eY),
 (296,.code eS),
 (297,.code fG),
 (37,.code bO),
 (122,.code gg),
 (123,.code dL),
 (124,.code ep),
 (125,.code bK),
 (59,.code eT),
 (307,.code dq),
 (308,.code jU),
 (127,.code d7),
 (128,.ext (E 128)),
 (314,.code jk),
 (140,.code d6),
 (146,.code dU),
 (42,.ext (E 42))]
theorem Da:Dj Tryz.prog aV=true:=by kernel_rfl
theorem Bg:(Tryz.prog.funcs[8]?).bind (ci (ce aV) Tryz.prog)=some cG:=by kernel_rfl
theorem Bf:(Tryz.prog.funcs[9]?).bind (ci (ce aV) Tryz.prog)=some gj:=by kernel_rfl
theorem Be:(Tryz.prog.funcs[11]?).bind (ci (ce aV) Tryz.prog)=some cS:=by kernel_rfl
theorem Bh:(Tryz.prog.funcs[16]?).bind (ci (ce aV) Tryz.prog)=some cN:=by kernel_rfl
theorem Bd:(Tryz.prog.funcs[18]?).bind (ci (ce aV) Tryz.prog)=some eD:=by kernel_rfl
theorem Bc:(Tryz.prog.funcs[19]?).bind (ci (ce aV) Tryz.prog)=some ff:=by kernel_rfl
theorem Bb:(Tryz.prog.funcs[22]?).bind (ci (ce aV) Tryz.prog)=some c7:=by kernel_rfl
theorem Db:(Tryz.prog.funcs[23]?).bind (ci (ce aV) Tryz.prog)=some gk:=by kernel_rfl
theorem Ba:(Tryz.prog.funcs[24]?).bind (ci (ce aV) Tryz.prog)=some gL:=by kernel_rfl
theorem A9:(Tryz.prog.funcs[25]?).bind (ci (ce aV) Tryz.prog)=some c8:=by kernel_rfl
theorem A8:(Tryz.prog.funcs[26]?).bind (ci (ce aV) Tryz.prog)=some dr:=by kernel_rfl
theorem A7:(Tryz.prog.funcs[27]?).bind (ci (ce aV) Tryz.prog)=some eA:=by kernel_rfl
theorem A6:(Tryz.prog.funcs[36]?).bind (ci (ce aV) Tryz.prog)=some eC:=by kernel_rfl
theorem Dg:(Tryz.prog.funcs[37]?).bind (ci (ce aV) Tryz.prog)=some dJ:=by kernel_rfl
theorem BE:(Tryz.prog.funcs[38]?).bind (ci (ce aV) Tryz.prog)=some fX:=by kernel_rfl
theorem BD:(Tryz.prog.funcs[39]?).bind (ci (ce aV) Tryz.prog)=some eV:=by kernel_rfl
theorem BC:(Tryz.prog.funcs[40]?).bind (ci (ce aV) Tryz.prog)=some fI:=by kernel_rfl
theorem BB:(Tryz.prog.funcs[41]?).bind (ci (ce aV) Tryz.prog)=some c9:=by kernel_rfl
theorem BA:(Tryz.prog.funcs[42]?).bind (ci (ce aV) Tryz.prog)=some dd:=by kernel_rfl
theorem Bz:(Tryz.prog.funcs[43]?).bind (ci (ce aV) Tryz.prog)=some dv:=by kernel_rfl
theorem By:(Tryz.prog.funcs[44]?).bind (ci (ce aV) Tryz.prog)=some bP:=by kernel_rfl
theorem Bx:(Tryz.prog.funcs[45]?).bind (ci (ce aV) Tryz.prog)=some dM:=by kernel_rfl
theorem A5:(Tryz.prog.funcs[46]?).bind (ci (ce aV) Tryz.prog)=some fF:=by kernel_rfl
theorem A4:(Tryz.prog.funcs[47]?).bind (ci (ce aV) Tryz.prog)=some fd:=by kernel_rfl
theorem Dh:(Tryz.prog.funcs[48]?).bind (ci (ce aV) Tryz.prog)=some gh:=by kernel_rfl
theorem A3:(Tryz.prog.funcs[49]?).bind (ci (ce aV) Tryz.prog)=some fC:=by kernel_rfl
theorem A2:(Tryz.prog.funcs[50]?).bind (ci (ce aV) Tryz.prog)=some dK:=by kernel_rfl
theorem A1:(Tryz.prog.funcs[51]?).bind (ci (ce aV) Tryz.prog)=some dt:=by kernel_rfl
theorem AZ:(Tryz.prog.funcs[52]?).bind (ci (ce aV) Tryz.prog)=some fe:=by kernel_rfl
theorem Dd:(Tryz.prog.funcs[70]?).bind (ci (ce aV) Tryz.prog)=some cU:=by kernel_rfl
theorem Bw:(Tryz.prog.funcs[71]?).bind (ci (ce aV) Tryz.prog)=some fW:=by kernel_rfl
theorem Bv:(Tryz.prog.funcs[72]?).bind (ci (ce aV) Tryz.prog)=some fg:=by kernel_rfl
theorem Bu:(Tryz.prog.funcs[73]?).bind (ci (ce aV) Tryz.prog)=some fH:=by kernel_rfl
theorem Bt:(Tryz.prog.funcs[74]?).bind (ci (ce aV) Tryz.prog)=some eZ:=by kernel_rfl
theorem Bs:(Tryz.prog.funcs[75]?).bind (ci (ce aV) Tryz.prog)=some du:=by kernel_rfl
theorem Br:(Tryz.prog.funcs[76]?).bind (ci (ce aV) Tryz.prog)=some iu:=by kernel_rfl
theorem Bq:(Tryz.prog.funcs[77]?).bind (ci (ce aV) Tryz.prog)=some fV:=by kernel_rfl
theorem AY:(Tryz.prog.funcs[81]?).bind (ci (ce aV) Tryz.prog)=some eU:=by kernel_rfl
theorem AX:(Tryz.prog.funcs[82]?).bind (ci (ce aV) Tryz.prog)=some bH:=by kernel_rfl
theorem AW:(Tryz.prog.funcs[83]?).bind (ci (ce aV) Tryz.prog)=some fE:=by kernel_rfl
theorem AU:(Tryz.prog.funcs[84]?).bind (ci (ce aV) Tryz.prog)=some fa:=by kernel_rfl
theorem Df:(Tryz.prog.funcs[85]?).bind (ci (ce aV) Tryz.prog)=some bD:=by kernel_rfl
theorem De:(Tryz.prog.funcs[86]?).bind (ci (ce aV) Tryz.prog)=some fD:=by kernel_rfl
theorem AT:(Tryz.prog.funcs[89]?).bind (ci (ce aV) Tryz.prog)=some fB:=by kernel_rfl
theorem AS:(Tryz.prog.funcs[90]?).bind (ci (ce aV) Tryz.prog)=some eY:=by kernel_rfl
theorem AR:(Tryz.prog.funcs[91]?).bind (ci (ce aV) Tryz.prog)=some eS:=by kernel_rfl
theorem AQ:(Tryz.prog.funcs[92]?).bind (ci (ce aV) Tryz.prog)=some fG:=by kernel_rfl
theorem Di:(Tryz.prog.funcs[106]?).bind (ci (ce aV) Tryz.prog)=some bO:=by kernel_rfl
theorem Bp:(Tryz.prog.funcs[107]?).bind (ci (ce aV) Tryz.prog)=some gg:=by kernel_rfl
theorem Bo:(Tryz.prog.funcs[108]?).bind (ci (ce aV) Tryz.prog)=some dL:=by kernel_rfl
theorem Bn:(Tryz.prog.funcs[109]?).bind (ci (ce aV) Tryz.prog)=some ep:=by kernel_rfl
theorem Bl:(Tryz.prog.funcs[110]?).bind (ci (ce aV) Tryz.prog)=some bK:=by kernel_rfl
theorem Dc:(Tryz.prog.funcs[114]?).bind (ci (ce aV) Tryz.prog)=some eT:=by kernel_rfl
theorem AP:(Tryz.prog.funcs[116]?).bind (ci (ce aV) Tryz.prog)=some dq:=by kernel_rfl
theorem AO:(Tryz.prog.funcs[117]?).bind (ci (ce aV) Tryz.prog)=some jU:=by kernel_rfl
theorem Bk:(Tryz.prog.funcs[124]?).bind (ci (ce aV) Tryz.prog)=some d7:=by kernel_rfl
theorem AN:(Tryz.prog.funcs[145]?).bind (ci (ce aV) Tryz.prog)=some jk:=by kernel_rfl
theorem Bj:(Tryz.prog.funcs[150]?).bind (ci (ce aV) Tryz.prog)=some d6:=by kernel_rfl
theorem Bi:(Tryz.prog.funcs[161]?).bind (ci (ce aV) Tryz.prog)=some dU:=by kernel_rfl
theorem yo (E:Nat→Ext):pe Tryz.prog aV (uY E) :=
 ⟨.inr ⟨8,by kernel_rfl,Bg⟩,
 .inr ⟨9,by kernel_rfl,Bf⟩,
 .inr ⟨11,by kernel_rfl,Be⟩,
 .inr ⟨16,by kernel_rfl,Bh⟩,
 .inr ⟨18,by kernel_rfl,Bd⟩,
 .inr ⟨19,by kernel_rfl,Bc⟩,
 .inr ⟨22,by kernel_rfl,Bb⟩,
 .inr ⟨23,by kernel_rfl,Db⟩,
 .inr ⟨24,by kernel_rfl,Ba⟩,
 .inr ⟨25,by kernel_rfl,A9⟩,
 .inr ⟨26,by kernel_rfl,A8⟩,
 .inr ⟨27,by kernel_rfl,A7⟩,
 .inr ⟨36,by kernel_rfl,A6⟩,
 .inr ⟨37,by kernel_rfl,Dg⟩,
 .inr ⟨38,by kernel_rfl,BE⟩,
 .inr ⟨39,by kernel_rfl,BD⟩,
 .inr ⟨40,by kernel_rfl,BC⟩,
 .inr ⟨41,by kernel_rfl,BB⟩,
 .inr ⟨42,by kernel_rfl,BA⟩,
 .inr ⟨43,by kernel_rfl,Bz⟩,
 .inr ⟨44,by kernel_rfl,By⟩,
 .inr ⟨45,by kernel_rfl,Bx⟩,
 .inr ⟨46,by kernel_rfl,A5⟩,
 .inr ⟨47,by kernel_rfl,A4⟩,
 .inr ⟨48,by kernel_rfl,Dh⟩,
 .inr ⟨49,by kernel_rfl,A3⟩,
 .inr ⟨50,by kernel_rfl,A2⟩,
 .inr ⟨51,by kernel_rfl,A1⟩,
 .inr ⟨52,by kernel_rfl,AZ⟩,
 .inr ⟨70,by kernel_rfl,Dd⟩,
 .inr ⟨71,by kernel_rfl,Bw⟩,
 .inr ⟨72,by kernel_rfl,Bv⟩,
 .inr ⟨73,by kernel_rfl,Bu⟩,
 .inr ⟨74,by kernel_rfl,Bt⟩,
 .inr ⟨75,by kernel_rfl,Bs⟩,
 .inr ⟨76,by kernel_rfl,Br⟩,
 .inr ⟨77,by kernel_rfl,Bq⟩,
 .inr ⟨81,by kernel_rfl,AY⟩,
 .inr ⟨82,by kernel_rfl,AX⟩,
 .inr ⟨83,by kernel_rfl,AW⟩,
 .inr ⟨84,by kernel_rfl,AU⟩,
 .inr ⟨85,by kernel_rfl,Df⟩,
 .inr ⟨86,by kernel_rfl,De⟩,
 .inr ⟨89,by kernel_rfl,AT⟩,
 .inr ⟨90,by kernel_rfl,AS⟩,
 .inr ⟨91,by kernel_rfl,AR⟩,
 .inr ⟨92,by kernel_rfl,AQ⟩,
 .inr ⟨106,by kernel_rfl,Di⟩,
 .inr ⟨107,by kernel_rfl,Bp⟩,
 .inr ⟨108,by kernel_rfl,Bo⟩,
 .inr ⟨109,by kernel_rfl,Bn⟩,
 .inr ⟨110,by kernel_rfl,Bl⟩,
 .inr ⟨114,by kernel_rfl,Dc⟩,
 .inr ⟨116,by kernel_rfl,AP⟩,
 .inr ⟨117,by kernel_rfl,AO⟩,
 .inr ⟨124,by kernel_rfl,Bk⟩,
 .inr ⟨145,by kernel_rfl,AN⟩,
 .inr ⟨150,by kernel_rfl,Bj⟩,
 .inr ⟨161,by kernel_rfl,Bi⟩,trivial⟩
end
end Go.Proofs.YtlnobeojgifojaaGreatDoor
