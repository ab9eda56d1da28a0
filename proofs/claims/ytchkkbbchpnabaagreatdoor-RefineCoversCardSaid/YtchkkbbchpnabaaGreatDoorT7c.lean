/- Functions of the program in the language of the value semantics, part 7, and that they match. -/
import Derived.Test.YtchkkbbchpnabaaGreatDoorT0c
set_option linter.unusedSimpArgs false
set_option linter.unusedVariables false
set_option linter.deprecated false

/- Functions of the program in the language of the value semantics, part 7, and that they match. -/
namespace Go.Vs.Tryz
open Go Go.Vs Go.Proofs.Tryz
set_option maxRecDepth 100000
set_option maxHeartbeats 8000000
noncomputable section
def v164:=G (lc f164 (cc f164 (ov:=[(4,0,[])]))).1
def c166:=G (cc f166 (ov:=[(8,4,[0,1])]) (dr:=[(36,[1984,2176]),(38,[1152])]) (ml:=[(36,1984)]))
def l166_0:=G (lp 0 (lc f166 c166))
def l166_1:=(fun a=>G (lp 1 (lc f166 c166 [a]))) l166_0
def v166:=(fun a b=>G (lc f166 c166 [a,b]).1) l166_0 l166_1
def v167:=G (lc f167 (cc f167 (ov:=[(4,7,[]),(6,7,[])])) (k:=true)).1
def v168:=G (lc f168 (cc f168 (ov:=[(4,7,[]),(6,7,[])])) (k:=true)).1
def c170:=G (cc f170)
def l170_0:=G (lp 0 (lc f170 c170))
def v170:=(fun a=>G (lc f170 c170 [a] (k:=true)).1) l170_0
def c171:=G (cc f171 (dr:=[(18,[704])]))
def l171_0:=G (lp 0 (lc f171 c171))
def v171:=(fun a=>G (lc f171 c171 [a]).1) l171_0
def v174:=G (F1 f174)
def v176:=G (lc f176 (cc f176) (k:=true)).1
def v177:=G (lc f177 (cc f177 (ov:=[(4,7,[]),(6,7,[])])) (k:=true)).1
def c178:=G (cc f178 (dr:=[(28,[960,1408]),(29,[960,1408,1760,1761,1762])]))
def l178_0:=G (lp 0 (lc f178 c178))
def v178:=(fun a=>G (lc f178 c178 [a] (k:=true)).1) l178_0
def v179:=G (lc f179 (cc f179) (k:=true)).1
def c181:=G (cc f181 (dr:=[(28,[960,1408]),(29,[960,1408,1760,1761,1762])]))
def l181_0:=G (lp 0 (lc f181 c181))
def v181:=(fun a=>G (lc f181 c181 [a] (k:=true)).1) l181_0
def c182:=G (cc f182 (dr:=[(29,[800,801,802])]))
def l182_0:=G (lp 0 (lc f182 c182))
def v182:=(fun a=>G (lc f182 c182 [a]).1) l182_0
def v183:=G (F1 f183)
def v184:=G (F1 f184)
def v185:=G (F1 f185)
def c186:=G (cc f186)
def l186_0:=G (lp 0 (lc f186 c186))
def v186:=(fun a=>G (lc f186 c186 [a]).1) l186_0
def v187:=G (F1 f187)
def v188:=G (F1 f188)
def c189:=G (cc f189)
def l189_0:=G (lp 0 (lc f189 c189))
def v189:=(fun a=>G (lc f189 c189 [a]).1) l189_0
def c190:=G (cc f190)
def l190_0:=G (lp 0 (lc f190 c190))
def v190:=(fun a=>G (lc f190 c190 [a]).1) l190_0
def v191:=G (lc f191 (cc f191) (k:=true)).1
def v192:=G (F1 f192)
def c193:=G (cc f193 (ov:=[(7,3,[5,14]),(16,3,[2,1]),(41,5,[]),(51,5,[])]) (dr:=[(10,[800,801,802,928,929,930,1024,1088,1091]),(17,[1248,1249,1250]),(19,[1504,1505,1506,1536]),(27,[1888,1889,1890]),(35,[2400,2401,2402]),(39,[2752]),(46,[3104,3105,3106,1024,2752])]))
def l193_0:=G (lp 0 (lc f193 c193))
def l193_1:=(fun a=>G (lp 1 (lc f193 c193 [a]))) l193_0
def v193:=(fun a b=>G (lc f193 c193 [a,b] (k:=true)).1) l193_0 l193_1
def v194:=G (lc f194 (cc f194 (dr:=[(73,[4224])])) (k:=true)).1
def v195:=G (F1 f195)
def c196:=G (cc f196 (dr:=[(6,[64])]))
def l196_0:=G (lp 0 (lc f196 c196))
def v196:=(fun a=>G (lc f196 c196 [a]).1) l196_0
def c197:=G (cc f197 (dr:=[(15,[64])]))
def l197_0:=G (lp 0 (lc f197 c197))
def v197:=(fun a=>G (lc f197 c197 [a]).1) l197_0
def c198:=G (cc f198 (dr:=[(72,[3776]),(74,[896]),(108,[6464]),(115,[6464]),(117,[5888]),(119,[5312])]))
def l198_0:=G (lp 0 (lc f198 c198))
def l198_1:=(fun a=>G (lp 1 (lc f198 c198 [a]))) l198_0
def l198_2:=(fun a b=>G (lp 2 (lc f198 c198 [a,b]))) l198_0 l198_1
def l198_3:=(fun a b c=>G (lp 3 (lc f198 c198 [a,b,c]))) l198_0 l198_1 l198_2
def l198_4:=(fun a b c d=>G (lp 4 (lc f198 c198 [a,b,c,d]))) l198_0 l198_1 l198_2 l198_3
def l198_5:=(fun a b c d e=>G (lp 5 (lc f198 c198 [a,b,c,d,e]))) l198_0 l198_1 l198_2 l198_3 l198_4
def v198:=(fun a b c d e g=>G (lc f198 c198 [a,b,c,d,e,g]).1) l198_0 l198_1 l198_2 l198_3 l198_4 l198_5
def a7_0:TL:=[(164,v164),(166,v166),(170,v170),(171,v171),(174,v174),(176,v176),(178,v178),(179,v179),(181,v181),(182,v182),(183,v183),(184,v184),(185,v185),(186,v186),(187,v187),(188,v188)]
theorem k7_0:a7_0.all mP=true:=by kernel_rfl
def a7_1:TL:=[(189,v189),(190,v190),(191,v191),(192,v192),(193,v193),(194,v194),(195,v195),(196,v196),(197,v197),(198,v198)]
theorem k7_1:a7_1.all mP=true:=by kernel_rfl
theorem m167:mFun prog 167 v167=true:=by kernel_rfl
theorem m168:mFun prog 168 v168=true:=by kernel_rfl
theorem m177:mFun prog 177 v177=true:=by kernel_rfl
end
end Go.Vs.Tryz
