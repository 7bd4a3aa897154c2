import Derived.Test.YtajokjbmpjjoiaaGreatDoorP19
import Derived.Lib.BufferWrite
import Derived.Lib.SlBuf
set_option maxRecDepth 20000
set_option maxHeartbeats 0
namespace Go.Proofs.YtajokjbmpjjoiaaGreatDoor
section
open Go.RowKit Go.Lib
theorem aaS (a:Nat)(h:a<256):(BitVec.ofInt 8 (a:Int)).toNat=a:=by
 rw[qf];simp only[Nat.reducePow];omega
theorem R6 (a b:UInt8):bits .xor .u8 ((a.toNat:Nat):Int) ((b.toNat:Nat):Int)=(((a^^^b).toNat:Nat):Int):=by
 have ha:=gT a;have hb:=gT b;show IntKind.u8.wrap ((BitVec.ofInt 8 (a.toNat:Int)^^^BitVec.ofInt 8 (b.toNat:Int)).toNat:Int)=_;rw[BitVec.toNat_xor,aaS _ ha,aaS _ hb,UInt8.toNat_xor];have h:=py (n:=8) ha hb;obtain⟨z,hz⟩:∃z,a.toNat^^^b.toNat=z:=⟨_,rfl⟩;rw[hz]at h⊢;simp[IntKind.wrap,IntKind.bits,IntKind.signed];omega
theorem Bt (l:List UInt8):(ky l).length=32:=by
 unfold ky;have h:=MH ((l.length+(o7 l.length).length)/64) o6 (l++o7 l.length) Q2;obtain⟨a0,a1,a2,a3,a4,a5,a6,a7,hE⟩:=eight h.1;rw[hE];rfl
theorem anC (s:ByteArray):s.data.toList=s.toList:=(kY s).symm
def q_ (k:List UInt8):List UInt8:=(if 64<k.length then ky k else k)++List.replicate (64-(if 64<k.length then ky k else k).length) 0
def pf (k:List UInt8)(m:UInt8):List UInt8:=(q_ k).map (·^^^m)
theorem R7 (k:List UInt8):(q_ k).length=64:=by
 unfold q_;rw[ag,cA];split
 ·rw[Bt]
 ·omega
theorem Bu (k:List UInt8)(m:UInt8):(pf k m).length=64:=by unfold pf;rw[eG,R7]
theorem anD:(aJ (List.replicate 64 (0:UInt8))).toArray=#[.int .u8 0,.int .u8 0,.int .u8 0,.int .u8 0,.int .u8 0,.int .u8 0,.int .u8 0,.int .u8 0,.int .u8 0,.int .u8 0,.int .u8 0,.int .u8 0,.int .u8 0,.int .u8 0,.int .u8 0,.int .u8 0,.int .u8 0,.int .u8 0,.int .u8 0,.int .u8 0,.int .u8 0,.int .u8 0,.int .u8 0,.int .u8 0,.int .u8 0,.int .u8 0,.int .u8 0,.int .u8 0,.int .u8 0,.int .u8 0,.int .u8 0,.int .u8 0,.int .u8 0,.int .u8 0,.int .u8 0,.int .u8 0,.int .u8 0,.int .u8 0,.int .u8 0,.int .u8 0,.int .u8 0,.int .u8 0,.int .u8 0,.int .u8 0,.int .u8 0,.int .u8 0,.int .u8 0,.int .u8 0,.int .u8 0,.int .u8 0,.int .u8 0,.int .u8 0,.int .u8 0,.int .u8 0,.int .u8 0,.int .u8 0,.int .u8 0,.int .u8 0,.int .u8 0,.int .u8 0,.int .u8 0,.int .u8 0,.int .u8 0,.int .u8 0]:=by rfl
theorem anE:(Tryz.prog.info? 5).map (·.size)=some 1:=ah
theorem anF {w:World}{g:Nat}{t:TypeId}{cs:Array Value}(h:Bk w g t cs)(ds:Array Value):Bk (w.setRow g ds) g t ds:=kd w g cs ds t (0,0) h
theorem aaT (k:ByteArray)(m:UInt8)(hk:k.size<=1000000000)(w:World):
 Calls Tryz.prog 115 #[.string k,.int .u8 (m.toNat:Nat)] w λ e w'=>e= .returned (.string (av (pf k.toList m)))/\Below w.heap.size w w':=by
 have hZ:=anD;have gZ:Below w.heap.size w (w.alloc (.cells #[.int .u8 0,.int .u8 0,.int .u8 0,.int .u8 0,.int .u8 0,.int .u8 0,.int .u8 0,.int .u8 0,.int .u8 0,.int .u8 0,.int .u8 0,.int .u8 0,.int .u8 0,.int .u8 0,.int .u8 0,.int .u8 0,.int .u8 0,.int .u8 0,.int .u8 0,.int .u8 0,.int .u8 0,.int .u8 0,.int .u8 0,.int .u8 0,.int .u8 0,.int .u8 0,.int .u8 0,.int .u8 0,.int .u8 0,.int .u8 0,.int .u8 0,.int .u8 0,.int .u8 0,.int .u8 0,.int .u8 0,.int .u8 0,.int .u8 0,.int .u8 0,.int .u8 0,.int .u8 0,.int .u8 0,.int .u8 0,.int .u8 0,.int .u8 0,.int .u8 0,.int .u8 0,.int .u8 0,.int .u8 0,.int .u8 0,.int .u8 0,.int .u8 0,.int .u8 0,.int .u8 0,.int .u8 0,.int .u8 0,.int .u8 0,.int .u8 0,.int .u8 0,.int .u8 0,.int .u8 0,.int .u8 0,.int .u8 0,.int .u8 0,.int .u8 0] 159)):=(aB _ w).alloc (ai _) _;have Ds:=Bk.new w 159 #[.int .u8 0,.int .u8 0,.int .u8 0,.int .u8 0,.int .u8 0,.int .u8 0,.int .u8 0,.int .u8 0,.int .u8 0,.int .u8 0,.int .u8 0,.int .u8 0,.int .u8 0,.int .u8 0,.int .u8 0,.int .u8 0,.int .u8 0,.int .u8 0,.int .u8 0,.int .u8 0,.int .u8 0,.int .u8 0,.int .u8 0,.int .u8 0,.int .u8 0,.int .u8 0,.int .u8 0,.int .u8 0,.int .u8 0,.int .u8 0,.int .u8 0,.int .u8 0,.int .u8 0,.int .u8 0,.int .u8 0,.int .u8 0,.int .u8 0,.int .u8 0,.int .u8 0,.int .u8 0,.int .u8 0,.int .u8 0,.int .u8 0,.int .u8 0,.int .u8 0,.int .u8 0,.int .u8 0,.int .u8 0,.int .u8 0,.int .u8 0,.int .u8 0,.int .u8 0,.int .u8 0,.int .u8 0,.int .u8 0,.int .u8 0,.int .u8 0,.int .u8 0,.int .u8 0,.int .u8 0,.int .u8 0,.int .u8 0,.int .u8 0,.int .u8 0];rw[<-hZ]at gZ Ds;go_enter Tryz.func115,Tryz.ntmps115;go_upto_region 2 with fail;rw[<-hZ];clear hZ;obtain⟨g,hg⟩:∃g,w.heap.size=g:=⟨_,rfl⟩;have HG:=ae hg;rw[hg]at Ds⊢;clear hg;have jZ:=ae (af Ds gZ);clear Ds gZ;generalize w.alloc (.cells (aJ (List.replicate 64 (0:UInt8))).toArray 159)=w0 at*;go_upto_if 9 with(fail);obtain⟨bb,gz⟩:∃bb,decide ((64:Int)<(k.size:Int))=bb:=⟨_,rfl⟩;rw[gz];go_cut [0]from 10 to 13 (λ v0 wx=>Hid (∃k2:ByteArray,v0= .string k2/\k2.toList=(if 64<k.toList.length then ky k.toList else k.toList)/\Below w0.heap.size w0 wx))
 case first=>
  cases bb with
  |true=>
   have uU:(64:Int)<(k.size:Int):=fZ gz;clear gz;have vK:(if 64<k.toList.length then ky k.toList else k.toList)=ky k.toList:=if_pos (by rw[aD];omega);have R8:=ae vK
   have j5:Hid (∀w',Below w0.heap.size w0 w'->Calls Tryz.prog 116 #[.slice (some ⟨w'.heap.size,0,none⟩) 1 1] (w'.alloc (.cells #[.string k] 9)) λ e w2=>e= .returned (.string (av (ky k.toList)))/\Below w0.heap.size w0 w2):=ae λ w' hb=>by
    have h:=Np [k] (some ⟨w'.heap.size,0,none⟩) 1 1 rfl aa (by unfold dO;simp;rw[aD];exact hk) (w'.alloc (.cells #[.string k] 9)) (Rd.new w' 9 #[.string k]);have hc:dO [k]=k.toList:=by unfold dO;simp
    rw[hc]at h;exact h.mono λ e w2 ⟨h1,h2⟩=>⟨h1,hb.trans (((aB w'.heap.size w').alloc (ai _) _).trans (h2.mono aj)|>.mono hb.size)⟩
   clear vK;go_wp2_with (go_at_call 116;go_must (refine(j5.out w0 (aB _ _)).mono ?_);rintro e w2 ⟨rfl,aC⟩);go_meet;exact ae ⟨_,rfl,by rw[R8.out,cn],aC⟩
  |false=>
   have uU:¬(64:Int)<(k.size:Int):=wL gz;clear gz;have vK:(if 64<k.toList.length then ky k.toList else k.toList)=k.toList:=if_neg (by rw[aD];omega);have R8:=ae vK;clear vK;go_wp2_with fail;go_meet;exact ae ⟨_,rfl,R8.out.symm,aB _ _⟩
 case rest=>
  obtain⟨k2,rfl,bI,DK⟩:=hcut.out;have ku:=jZ.out.1.aL DK;have cS:=ae (jZ.out.2.trans (DK.mono jZ.out.2.size))
  have yR:k2.size<=64:=by
   have:=aD k2;rw[bI]at this;split at this
   ·rw[Bt]at this;omega
   ·omega
  have hK:k2.toList++List.replicate (64-k2.size) 0=q_ k.toList:=by unfold q_;rw[<-bI,<-aD]
  have xO:=run_copy_row_string (P:=Tryz.prog) wc 54 9 3 5 g 0 64 64 k2 (aJ (List.replicate 64 (0:UInt8))).toArray 159 Tryz.underlying54 anE ku yR (by simp[aJ];omega)
  have bK:((aJ (List.replicate 64 (0:UInt8))).toArray.toList.take 0++byteCells k2.data.toList++(aJ (List.replicate 64 (0:UInt8))).toArray.toList.drop (0+k2.size)).toArray=(aJ (q_ k.toList)).toArray:=by
   congr 1;rw[<-hK,mM,List.nil_append,jd];unfold aJ byteCells;rw[ka,List.map_replicate,List.map_replicate,List.drop_replicate,show k2.data.toList=k2.toList from(anC k2)]
  rw[bK]at xO;have cC:=anF ku (aJ (q_ k.toList)).toArray;have aC:Below w.heap.size w (wc.setRow g (aJ (q_ k.toList)).toArray):=below_setRow cS.out (by rw[HG.out];exact ai _) _;have jJ:k2.size<=64:=yR;clear bK hK bI ku DK hcut cS jZ gz;obtain⟨w2,dS⟩:∃x,wc.setRow g (aJ (q_ k.toList)).toArray=x:=⟨_,rfl⟩;rw[dS]at xO cC aC;have bG:=ae (af cC aC);have aaU:=ae xO;clear xO cC aC dS;go_wp2_with (refine wpList_copy_run _ rfl (.tmp 13) (.tmp 14) 54 9 rfl _ _ rfl rfl aaU.out ?_);go_loopw [16] (λ vi wr=>∃i:Nat,vi= .int .i64 (i:Nat)/\i<=64/\Hid (Bk wr g 159 (aJ ((pf k.toList m).take i++(q_ k.toList).drop i)).toArray/\Below w.heap.size w wr)) (λ vi _=>64-vnat vi)
  case atStart=>exact⟨0,rfl,aa,bG⟩
  case round=>
   clear bG aaU;obtain⟨i,rfl,hi,HX⟩:=hrel;by_cases ao:(i:Int)<64
   ·have cP:i<64:=aa;have mV:=R7 k.toList;obtain⟨x,hx⟩:∃x,(q_ k.toList)[i]? =some x:=⟨_,aZ aa⟩;have aaV:(pf k.toList m)[i]? =some (x^^^m):=by unfold pf;rw[eH,hx];rfl
    have j7:wr.cell? ⟨g,i,none⟩=some (.int .u8 (x.toNat:Nat)):=by
     rw[HX.out.1.cell,gW];unfold aJ;rw[eH,lf (by rw[ba,Bu];omega),rO,ba,Bu,lB aa,gy,Nat.add_zero,hx];rfl
    have avl:=HX.out.1.frozen i;have avm:=R6 x m;have bu:=HX.out.1.aP i (.int .u8 ((x^^^m).toNat:Nat))
    have I6:((aJ ((pf k.toList m).take i++(q_ k.toList).drop i)).toArray).setIfInBounds i (.int .u8 ((x^^^m).toNat:Nat))=(aJ ((pf k.toList m).take (i+1)++(q_ k.toList).drop (i+1))).toArray:=by
     apply Array.toList_inj.1;rw[yc];show(aJ _).set i _=aJ _;unfold aJ;rw[<-zQ (f:=λ b:UInt8=>Value.int .u8 (b.toNat:Nat)) (a:=x^^^m)];congr 1;rw[eu,aaV,qj (by omega:i<(q_ k.toList).length),qi _ _ (by rw[ba,Bu];omega),ba,Bu,lB hi,gy,bL,aN];rfl
    rw[I6]at bu;have H2:=ae (af bu (HX.out.2.setCell (p:=⟨g,i,none⟩) (by rw[HG.out];exact ai _) (.int .u8 ((x^^^m).toNat:Nat))));clear bu I6 hx aaV HX mV;go_wp2_with fail;go_roundw
    case rel=>exact⟨i+1,by first|rfl|go_num,aa,H2⟩
    case measure=>simp[vnat];omega
   ·obtain rfl:i=64:=aa
    have hF:Bk wr g 159 (aJ (pf k.toList m)).toArray:=by
     have:=HX.out.1;rwa [nD (by rw[R7];exact ai _),bV,bQ (by rw[Bu];exact ai _)]at this
    have fT:=yn (P:=Tryz.prog) wr 54 9 5 ⟨g,0,none⟩ 64 (pf k.toList m) 64 (Bu _ _).symm Tryz.underlying54 Tryz.underlying5 Tryz.underlying9 (λ j u hj=>by rw[lD,jd,hF.cell,gW];exact hj);have HB:=ae HX.out.2;clear hF HX;go_wp2_with fail;go_ret;exact⟨rfl,HB.out⟩
def mF (key l:List UInt8):List UInt8:=ky (pf key 92++ky (pf key 54++l))
theorem Bv (key l:List UInt8):(mF key l).length=32:=Bt _
theorem FW (a b:ByteArray):dO [a,b]=a.toList++b.toList:=by unfold dO;simp
theorem Nq (key:ByteArray)(hk:key.size<=1000000000)(ss:List ByteArray)(A:Option Addr)(n c:Nat)(hn:ss.length=n)(fk:n<=1000)(hl:(dO ss).length<=100000000)(w:World)(hr:Rd w A (cO ss)):
 Calls Tryz.prog 60 #[.string key,.slice A n c] w λ e w'=>e= .returned (.string (av (mF key.toList (dO ss))))/\Below w.heap.size w w':=by
 have HN:=ae hn;have HR:=ae hr;have HL:=ae hl;have R9:Hid (∀w',Calls Tryz.prog 115 #[.string key,.int .u8 54] w' λ e w2=>e= .returned (.string (av (pf key.toList 54)))/\Below w'.heap.size w' w2):=ae λ w'=>aaT key 54 hk w';have fW:Hid (∀w',Calls Tryz.prog 115 #[.string key,.int .u8 92] w' λ e w2=>e= .returned (.string (av (pf key.toList 92)))/\Below w'.heap.size w' w2):=ae λ w'=>aaT key 92 hk w';obtain⟨K,hK⟩:∃K,pf key.toList 54=K:=⟨_,rfl⟩;obtain⟨K2,Nr⟩:∃K,pf key.toList 92=K:=⟨_,rfl⟩;have ub:=ae (show K.length=64/\K2.length=64 from⟨by rw[<-hK,Bu],by rw[<-Nr,Bu]⟩);have R_:=ae (show mF key.toList (dO ss)=ky (K2++ky (K++dO ss))from by unfold mF;rw[hK,Nr]);rw[hK]at R9;rw[Nr]at fW;clear hn hr hl hK Nr;go_enter Tryz.func60,Tryz.ntmps60;go_wp2_with fail;refine(YO _).mono ?_;rintro e w1 ⟨rfl,eC⟩;obtain⟨g,hg⟩:∃g,w.heap.size=g:=⟨_,rfl⟩;have H1:Hid (q' w w1 g none []):=ae (by rw[eC,<-hg];exact⟨qZ.new w,(aB _ w).alloc (ai _) _,ai _,aj⟩);rw[hg];clear eC hg;go_wp2_with fail;(with_reducible refine(R9.out w1).mono ?_);rintro e w2 ⟨rfl,aC⟩;have H2:=ae (H1.out.below aC);have Br:=ae (R1 [] (av K) g none w2 (by rw[cV,ub.out.1];simp) H2.out.at_);clear aC H1 R9;go_wp2_with fail;(with_reducible refine Br.out.mono ?_);rintro e w3 ⟨rfl,r3,h3,mh,dL⟩;rw[List.nil_append,cn]at h3;have H3:Hid (∃r,q' w w3 g r (K++dO (ss.take 0))):=ae ⟨r3,by rw[mM];show q' w w3 g r3 (K++[]);rw[bV];exact H2.out.step h3 mh dL⟩;clear h3 mh dL H2 Br;go_wp2_with fail;go_loopw [15] (λ vi wr=>∃i:Nat,vi= .int .i64 (i:Nat)/\i<=n/\Hid (∃r,q' w wr g r (K++dO (ss.take i)))) (λ vi _=>n-vnat vi)
 case atStart=>exact⟨0,rfl,aa,H3⟩
 case round=>
  clear H3;obtain⟨i,rfl,hi,HX⟩:=hrel;by_cases ao:(i:Int)<(n:Int)
  ·obtain⟨s,hs⟩:∃s,ss[i]? =some s:=⟨_,aZ (by rw[HN.out];omega)⟩;have fe:(cO ss)[i]? =some (.string s):=by unfold cO;rw[eH,hs];rfl
   obtain⟨b,o,rfl,hc⟩:=HR.out (by intro e;rw[e]at fe;cases fe);have c0:=hc _ _ fe;obtain⟨r,hX⟩:=HX.out;have sH:wr.cell? ⟨b,o+i,none⟩=some (.string s):=(hX.bl.cell (cQ w _ c0)).trans c0;have jS:=aaQ hs;have il:=aaR ss (i+1);rw[jS,ag,aD]at il;have Br:=ae (R1 _ s g r wr (by rw[ag,ub.out.1];have:=HL.out;omega) hX.at_);have HS:=ae (af hX jS);clear hs fe hc c0 hX HX jS il;go_wp2_with fail;(with_reducible refine Br.out.mono ?_);rintro e w2 ⟨rfl,r2,h2,bI,cH⟩;have H2:Hid (∃r,q' w w2 g r (K++dO (ss.take (i+1)))):=ae ⟨r2,by rw[HS.out.2,<-aN];exact HS.out.1.step h2 bI cH⟩;clear h2 bI cH Br HS sH;go_wp2_with fail;go_roundw
   case rel=>exact⟨i+1,by first|rfl|go_num,aa,H2⟩
   case measure=>simp[vnat];omega
  ·obtain rfl:i=n:=aa;obtain⟨r,hX⟩:=HX.out;rw[bQ (by rw[HN.out];omega)]at hX;have gG:=ae hX;clear hX HX;go_wp2_with fail;(with_reducible refine(fW.out wr).mono ?_);rintro e w4 ⟨rfl,cu⟩;have H4:=ae (gG.out.below cu);have j5:=ae (aaP _ (by rw[ag,ub.out.1];have:=HL.out;omega) g r w4 H4.out.at_);clear cu gG fW;go_wp2_with fail;(with_reducible refine j5.out.mono ?_);rintro e w5 ⟨rfl,bE⟩;have mq:=ae (H4.out.bl.trans (bE.mono H4.out.bl.size))
   have iM:Hid (Calls Tryz.prog 116 #[.slice (some ⟨w5.heap.size,0,none⟩) 2 2] (w5.alloc (.cells #[.string (av K2),.string (av (ky (K++dO ss)))] 9)) λ e w6=>e= .returned (.string (av (mF key.toList (dO ss))))/\Below w.heap.size w w6):=ae (by
    have h:=Np [av K2,av (ky (K++dO ss))] (some ⟨w5.heap.size,0,none⟩) 2 2 rfl aa (by rw[FW,cn,cn,ag,Bt,ub.out.2];omega) (w5.alloc (.cells #[.string (av K2),.string (av (ky (K++dO ss)))] 9)) (Rd.new w5 9 #[.string (av K2),.string (av (ky (K++dO ss)))])
    rw[FW,cn,cn,<-R_.out]at h
    exact h.mono λ e w6 ⟨h1,h2⟩=>⟨h1,mq.out.trans (((aB w5.heap.size w5).alloc (ai _) _).trans (h2.mono aj)|>.mono mq.out.size)⟩)
   clear bE j5 H4;go_wp2_with fail;(with_reducible refine iM.out.mono ?_);rintro e w6 ⟨rfl,b9⟩;have FX:=ae b9;clear b9 iM;go_wp2_with fail;go_ret;exact⟨rfl,FX.out⟩
theorem anG (s:ByteArray)(i:Nat)(h:i<s.size)(w:World):Calls Tryz.prog 86 #[.string s,.int .i64 (i:Nat)] w λ e w'=>e= .returned (.int .u8 ((s[i].toNat:Nat):Int))/\w=w':=by
 have h1:(i:Int)<(s.size:Int):=aa;go_enter Tryz.func86,Tryz.ntmps86;go_wp2_with fail;go_ret;exact⟨rfl,rfl⟩
theorem aaW (s:ByteArray)(hs:s.size<=1000000)(w:World):Calls Tryz.prog 42 #[.string s,.string s] w λ e w'=>e= .returned (.tuple #[.bool true,.int .i64 (s.size:Nat)])/\Below w.heap.size w w':=by
 obtain⟨n,hn⟩:∃n,s.size=n:=⟨_,rfl⟩;have hm:max (n:Int) (n:Int)=(n:Int):=aa
 have hx:bits .xor .i64 (n:Int) (n:Int)=0:=by
  have:=Px n n aa aa;rw[Nat.xor_self]at this;exact this
 have ho:bits .or .i64 0 0=0:=by
  have:=agY 0 0 aa aa;exact this
 go_enter Tryz.func42,Tryz.ntmps42;rw[hn];go_wp2_with fail;go_loopw [7,20] (λ v7 v20 wr=>∃i:Nat,v7= .int .i64 0/\v20= .int .i64 (i:Nat)/\i<=n/\Hid (Below w.heap.size w wr)) (λ _ v20 _=>n-vnat v20)
 case atStart=>exact⟨0,rfl,rfl,aa,ae (aB _ _)⟩
 case round=>
  obtain⟨i,rfl,rfl,hi,HB⟩:=hrel;by_cases ao:(i:Int)<(n:Int)
  ·have cP:i<s.size:=aa;obtain⟨x,hx⟩:∃x,s[i]=x:=⟨_,rfl⟩;have Bw:=R6 x x;rw[UInt8.xor_self]at Bw;have Bw:bits .xor .u8 ((x.toNat:Nat):Int) ((x.toNat:Nat):Int)=0:=Bw
   have anH:Hid (∀w',Calls Tryz.prog 86 #[.string s,.int .i64 (i:Nat)] w' λ e bO=>e= .returned (.int .u8 ((x.toNat:Nat):Int))/\w'=bO):=ae λ w'=>by
    have:=anG s i cP w';rwa [hx]at this
   clear cP hx;go_wp2_with (go_at_call 86;go_must (refine(anH.out _).mono ?_);rintro e w2 ⟨rfl,rfl⟩);go_roundw
   case rel=>exact⟨i+1,by first|rfl|go_num,by first|rfl|go_num,aa,HB⟩
   case measure=>simp[vnat];omega
  ·obtain rfl:i=n:=aa;go_wp2_with fail;go_ret2;exact⟨rfl,HB.out⟩
