/- Functions of the program in the language of the value semantics,part 3,and that they match. -/
import Derived.Test.YtccmnfpbcmccpaaGreatDoorT0w
set_option linter.all false

/- Functions of the program in the language of the value semantics,part 3,and that they match. -/
namespace Go.Vs.Tryz
open Go Go.Vs Go.Proofs.Tryz
set_option maxRecDepth 100000
set_option maxHeartbeats 8000000
noncomputable section
def v160:=G (F1 f160)
def v162:=G (lc f162 (cc f162 (ov:=[(3,3,[0,1])]))).1
def v161:=G (F1 f161)
def v163:=G (F1 f163)
def c164:=G (cc f164 (ov:=[(11,0,[])]) (dr:=[(42,[2560]),(65,[2080,2081,2082,2560]),(75,[128])]))
def MI:=G (lp 0 (lc f164 c164))
def v164:=(fun a=>G (lc f164 c164 [a]).1) MI
def v165:=G (F1 f165)
def c166:=G (cc f166)
def MG:=G (lp 0 (lc f166 c166))
def v166:=(fun a=>G (lc f166 c166 [a]).1) MG
def c167:=G (cc f167 (ov:=[(30,1,[0])]) (dr:=[(18,[1024]),(32,[2016,2017,2018])]))
def KG:=G (lp 0 (lc f167 c167))
def v167:=(fun a=>G (lc f167 c167 [a] (k:=true)).1) KG
def c168:=G (cc f168)
def Ov:=G (lp 0 (lc f168 c168))
def v168:=(fun a=>G (lc f168 c168 [a]).1) Ov
def v169:=G (F1 f169)
def v170:=G (F1 f170)
def v171:=G (F1 f171)
def v172:=G (F1 f172)
def c173:=G (cc f173 (ov:=[(6,1,[1]),(7,3,[4,5]),(20,3,[4,5]),(23,5,[]),(28,5,[])]) (dr:=[(10,[960])]))
def Zfj:=G (lp 0 (lc f173 c173))
def v173:=(fun a=>G (lc f173 c173 [a]).1) Zfj
def c174:=G (cc f174)
def Zcg:=G (lp 0 (lc f174 c174))
def v174:=(fun a=>G (lc f174 c174 [a]).1) Zcg
def v175:=G (F1 f175)
def v176:=G (F1 f176)
def v177:=G (F1 f177)
def c178:=G (cc f178)
def YM:=G (lp 0 (lc f178 c178))
def v178:=(fun a=>G (lc f178 c178 [a]).1) YM
def v179:=G (F1 f179)
def v180:=G (F1 f180)
def c181:=G (cc f181)
def Xg:=G (lp 0 (lc f181 c181))
def v181:=(fun a=>G (lc f181 c181 [a]).1) Xg
def c182:=G (cc f182)
def ZhQ:=G (lp 0 (lc f182 c182))
def v182:=(fun a=>G (lc f182 c182 [a]).1) ZhQ
def c183:=G (cc f183)
def XR:=G (lp 0 (lc f183 c183))
def v183:=(fun a=>G (lc f183 c183 [a]).1) XR
def c184:=G (cc f184)
def PW:=G (lp 0 (lc f184 c184))
def v184:=(fun a=>G (lc f184 c184 [a]).1) PW
def c185:=G (cc f185 (ov:=[(92,1,[2,3])]) (dr:=[(37,[64,128])]))
def Jq:=G (lp 0 (lc f185 c185))
def v185:=(fun a=>G (lc f185 c185 [a]).1) Jq
def c186:=G (cc f186 (ov:=[(1,4,[0,5]),(12,1,[0])]) (dr:=[(14,[864,865,866])]))
def P7:=G (lp 0 (lc f186 c186))
def v186:=(fun a=>G (lc f186 c186 [a]).1) P7
def c188:=G (cc f188 (ov:=[(17,3,[4,5]),(19,3,[0,5]),(41,5,[])]) (dr:=[(38,[2240])]))
def KO:=G (lp 0 (lc f188 c188))
def v188:=(fun a=>G (lc f188 c188 [a]).1) KO
def c187:=G (cc f187 (ov:=[(6,4,[0,6])]) (dr:=[(6,[256]),(30,[1792])]))
def Ng:=G (lp 0 (lc f187 c187))
def v187:=(fun a=>G (lc f187 c187 [a]).1) Ng
def c189:=G (cc f189)
def KX:=G (lp 0 (lc f189 c189))
def R9:=(fun a=>G (lp 1 (lc f189 c189 [a]))) KX
def v189:=(fun a b=>G (lc f189 c189 [a,b]).1) KX R9
def c190:=G (cc f190 (ov:=[(3,4,[0,5]),(34,4,[0,6])]) (dr:=[(22,[1280]),(31,[64]),(64,[2624,3968])]))
def JR:=G (lp 0 (lc f190 c190))
def TO:=(fun a=>G (lp 1 (lc f190 c190 [a]))) JR
def v190:=(fun a b=>G (lc f190 c190 [a,b]).1) JR TO
def c191:=G (cc f191 (ov:=[(31,3,[4,5]),(33,3,[0,5]),(56,5,[])]) (dr:=[(53,[3200])]))
def Jp:=G (lp 0 (lc f191 c191))
def OQ:=(fun a=>G (lp 1 (lc f191 c191 [a]))) Jp
def v191:=(fun a b=>G (lc f191 c191 [a,b]).1) Jp OQ
def v192:=G (F1 f192)
def c193:=G (cc f193 (ov:=[(5,4,[0,4]),(29,0,[]),(31,0,[]),(37,5,[])]) (dr:=[(41,[1728,1920,2048,2496])]))
def Pa:=G (lp 0 (lc f193 c193))
def v193:=(fun a=>G (lc f193 c193 [a]).1) Pa
def c194:=G (cc f194)
def Qb:=G (lp 0 (lc f194 c194))
def v194:=(fun a=>G (lc f194 c194 [a]).1) Qb
def c195:=G (cc f195 (ov:=[(1,4,[0,5]),(12,1,[0]),(17,4,[0,1])]) (dr:=[(14,[864,865,866]),(40,[2432])]))
def Lc:=G (lp 0 (lc f195 c195))
def M4:=(fun a=>G (lp 1 (lc f195 c195 [a]))) Lc
def v195:=(fun a b=>G (lc f195 c195 [a,b]).1) Lc M4
def c196:=G (cc f196 (dr:=[(15,[864,865,866])]))
def Po:=G (lp 0 (lc f196 c196))
def v196:=(fun a=>G (lc f196 c196 [a]).1) Po
def v198:=G (F1 f198)
def v199:=G (F1 f199)
def c197:=G (cc f197)
def ZfG:=G (lp 0 (lc f197 c197))
def v197:=(fun a=>G (lc f197 c197 [a]).1) ZfG
def c200:=G (cc f200 (dr:=[(27,[576,1344]),(31,[576,1344,1696,1697,1698])]))
def ZaO:=G (lp 0 (lc f200 c200))
def v200:=(fun a=>G (lc f200 c200 [a]).1) ZaO
def v151:=G (F1 f151)
def v155:=G (F1 f155)
def v204:=G (F1 f204)
def c203:=G (cc f203 (dr:=[(15,[864,865,866])]))
def LP:=G (lp 0 (lc f203 c203))
def v203:=(fun a=>G (lc f203 c203 [a]).1) LP
def c205:=G (cc f205 (dr:=[(20,[896]),(36,[1920])]))
def H7:=G (lp 0 (lc f205 c205))
def KB:=(fun a=>G (lp 1 (lc f205 c205 [a]))) H7
def v205:=(fun a b=>G (lc f205 c205 [a,b]).1) H7 KB
def c207:=G (cc f207 (ov:=[(1,4,[0,1]),(46,1,[0]),(53,1,[0])]) (dr:=[(43,[1184,1185,1186,2624])]))
def Iu:=G (lp 0 (lc f207 c207))
def K7:=(fun a=>G (lp 1 (lc f207 c207 [a]))) Iu
def v207:=(fun a b=>G (lc f207 c207 [a,b]).1) Iu K7
def v206:=G (F1 f206)
def c208:=G (cc f208 (ov:=[(42,1,[0])]) (dr:=[(11,[576]),(32,[64]),(44,[2784,2785,2786])]))
def Kl:=G (lp 0 (lc f208 c208))
def MZ:=(fun a=>G (lp 1 (lc f208 c208 [a]))) Kl
def v208:=(fun a b=>G (lc f208 c208 [a,b] (k:=true)).1) Kl MZ
def c209:=G (cc f209)
def Za6:=G (lp 0 (lc f209 c209))
def v209:=(fun a=>G (lc f209 c209 [a]).1) Za6
def c210:=G (cc f210 (ov:=[(46,1,[0])]) (dr:=[(48,[3040,3041,3042])]))
def Lq:=G (lp 0 (lc f210 c210))
def K2:=(fun a=>G (lp 1 (lc f210 c210 [a]))) Lq
def v210:=(fun a b=>G (lc f210 c210 [a,b] (k:=true)).1) Lq K2
def v212:=G (F1 f212)
def c211:=G (cc f211)
def NH:=G (lp 0 (lc f211 c211))
def v211:=(fun a=>G (lc f211 c211 [a]).1) NH
def v213:=G (F1 f213)
def v214:=G (lc f214 (cc f214 (ov:=[(9,0,[]),(20,0,[])]) (dr:=[(18,[896]),(27,[64,1536])]))).1
def v215:=G (F1 f215)
def c216:=G (cc f216 (ov:=[(6,4,[0,5]),(37,4,[0,5]),(170,4,[0,5])]) (dr:=[(25,[832,1472]),(34,[128]),(59,[3840,3904]),(75,[5248]),(90,[3840,3904]),(102,[6976,7040,5248]),(118,[7744]),(140,[8704,8768]),(159,[2304,192]),(167,[2112]),(170,[2112]),(205,[12672,12992]),(230,[14272,14592])]))
def He:=G (lp 0 (lc f216 c216))
def EQ:=(fun a=>G (lp 1 (lc f216 c216 [a]))) He
def HT:=(fun a b=>G (lp 2 (lc f216 c216 [a,b]))) He EQ
def Hg:=(fun a b c=>G (lp 3 (lc f216 c216 [a,b,c]))) He EQ HT
def v216:=(fun a b c d=>G (lc f216 c216 [a,b,c,d]).1) He EQ HT Hg
def c217:=G (cc f217 (ov:=[(2,4,[0,5])]) (dr:=[(15,[832])]))
def MX:=G (lp 0 (lc f217 c217))
def v217:=(fun a=>G (lc f217 c217 [a]).1) MX
def v218:=G (F1 f218)
def v219:=G (F1 f219)
def c201:=G (cc f201 (ov:=[(9,4,[0,1])]) (dr:=[(48,[2944]),(50,[1216])]))
def Jd:=G (lp 0 (lc f201 c201))
def JO:=(fun a=>G (lp 1 (lc f201 c201 [a]))) Jd
def v201:=(fun a b=>G (lc f201 c201 [a,b]).1) Jd JO
def c202:=G (cc f202 (dr:=[(53,[2752]),(82,[4224])]))
def Kq:=G (lp 0 (lc f202 c202))
def FL:=(fun a=>G (lp 1 (lc f202 c202 [a]))) Kq
def v202:=(fun a b=>G (lc f202 c202 [a,b]).1) Kq FL
def v225:=G (F1 f225)
def v226:=G (lc f226 (cc f226) (k:=true)).1
def v227:=G (F1 f227)
def v228:=G (lc f228 (cc f228 (ov:=[(8,1,[0])]))).1
def c229:=G (cc f229)
def Ls:=G (lp 0 (lc f229 c229))
def MH:=(fun a=>G (lp 1 (lc f229 c229 [a]))) Ls
def v229:=(fun a b=>G (lc f229 c229 [a,b] (k:=true)).1) Ls MH
def c230:=G (cc f230)
def Mp:=G (lp 0 (lc f230 c230))
def v230:=(fun a=>G (lc f230 c230 [a]).1) Mp
def v231:=G (lc f231 (cc f231 (ov:=[(18,0,[]),(24,0,[])]) (dr:=[(36,[64,2112]),(42,[128])]))).1
def v232:=G (lc f232 (cc f232 (dr:=[(29,[128,1088])]))).1
def v233:=G (lc f233 (cc f233 (dr:=[(15,[128,192])]))).1
def v234:=G (F1 f234)
def v235:=G (F1 f235)
def c236:=G (cc f236 (ov:=[(4,4,[0,6]),(24,4,[0,5])]) (dr:=[(21,[1216]),(40,[2432])]))
def JS:=G (lp 0 (lc f236 c236))
def PF:=(fun a=>G (lp 1 (lc f236 c236 [a]))) JS
def v236:=(fun a b=>G (lc f236 c236 [a,b]).1) JS PF
def a3_0:TL:=[(160,v160),(162,v162),(161,v161),(163,v163),(164,v164),(165,v165),(166,v166),(167,v167),(168,v168),(169,v169),(170,v170),(171,v171),(172,v172),(173,v173),(174,v174),(175,v175)]
theorem k3_0:a3_0.all mP=true:=by kernel_rfl
def a3_1:TL:=[(176,v176),(177,v177),(178,v178),(179,v179),(180,v180),(181,v181),(182,v182),(183,v183),(184,v184),(185,v185),(186,v186),(188,v188),(187,v187),(189,v189),(190,v190),(191,v191)]
theorem k3_1:a3_1.all mP=true:=by kernel_rfl
def a3_2:TL:=[(192,v192),(193,v193),(194,v194),(195,v195),(196,v196),(198,v198),(199,v199),(197,v197),(200,v200),(151,v151),(155,v155),(204,v204),(203,v203),(205,v205),(207,v207),(206,v206)]
theorem k3_2:a3_2.all mP=true:=by kernel_rfl
def a3_3:TL:=[(208,v208),(209,v209),(210,v210),(212,v212),(211,v211),(213,v213),(214,v214),(215,v215),(216,v216),(217,v217),(218,v218),(219,v219),(201,v201),(202,v202),(225,v225),(226,v226)]
theorem k3_3:a3_3.all mP=true:=by kernel_rfl
def a3_4:TL:=[(227,v227),(228,v228),(229,v229),(230,v230),(231,v231),(232,v232),(233,v233),(234,v234),(235,v235),(236,v236)]
theorem k3_4:a3_4.all mP=true:=by kernel_rfl
end
end Go.Vs.Tryz
