import Derived.Test.YtajokjbmpjjoiaaGreatDoorP20
import Derived.Test.YtajokjbmpjjoiaaGreatDoorP26
import Derived.Test.YtajokjbmpjjoiaaGreatDoorP40
set_option maxRecDepth 20000
set_option maxHeartbeats 0
set_option linter.unusedSimpArgs false
set_option linter.unusedVariables false
namespace Go.Proofs.YtajokjbmpjjoiaaGreatDoor
section
open Go.RowKit Go.Lib
def sW (key bJ:List UInt8)(bD k:Nat)(s:List UInt8):List UInt8:=s.mapIdx λ i b=>if i<k then b^^^Av key bJ bD i else b
theorem arK (key bJ:List UInt8)(bD k:Nat)(s:List UInt8):(sW key bJ bD k s).length=s.length:=by unfold sW;rw[uz]
theorem arL (key bJ:List UInt8)(bD:Nat)(s:List UInt8):sW key bJ bD 0 s=s:=by
 unfold sW;apply List.ext_getElem
 ·rw[uz]
 ·intro i h1 h2;rw[Cw,if_neg aa]
theorem arM (key bJ:List UInt8)(bD k:Nat)(s:List UInt8)(h:s.length<=k):sW key bJ bD k s=pI key bJ bD s:=by
 unfold sW pI;apply List.ext_getElem
 ·rw[uz,uz]
 ·intro i h1 h2;rw[Cw,Cw,if_pos (by rw[uz]at h1;omega)]
theorem arN (key bJ:List UInt8)(bD k:Nat)(s:List UInt8)(h:k<s.length):(sW key bJ bD k s)[k]? =some s[k]:=by
 unfold sW;rw[List.getElem?_mapIdx,aZ h];simp
theorem arO (key bJ:List UInt8)(bD k:Nat)(s:List UInt8)(h:k<s.length):sW key bJ bD (k+1) s=(sW key bJ bD k s).set k (s[k]^^^Av key bJ bD k):=by
 unfold sW;apply List.ext_getElem
 ·rw[iP,uz,uz]
 ·intro i h1 h2;rw[List.getElem_set,Cw];by_cases e:k=i
  ·subst e;rw[if_pos rfl,if_pos aa]
  ·rw[if_neg e,Cw];by_cases e2:i<k
   ·rw[if_pos e2,if_pos aa]
   ·rw[if_neg e2,if_neg aa]
def j9 (w:World)(q:Nat)(l:List UInt8):Prop:=∃cur fz,w.heap[q]? =some (.cells cur 5 fz)/\(fz.2=0∨cur.size<=fz.1)/\l.length<=cur.size/\cur.toList.take l.length=aJ l
theorem j9.lt {w:World}{q:Nat}{l:List UInt8}(h:j9 w q l):q<w.heap.size:=by
 obtain⟨_,_,h1,_⟩:=h;exact(kZ.1 h1).1
theorem j9.below {w w':World}{q B:Nat}{l:List UInt8}(h:j9 w q l)(hb:Below B w w')(hq:q<B):j9 w' q l:=by
 obtain⟨cur,fz,h1,h2⟩:=h;exact⟨cur,fz,(hb.block q hq).trans h1,h2⟩
theorem j9.aL {w w':World}{q:Nat}{l:List UInt8}(h:j9 w q l)(hb:Below w.heap.size w w'):j9 w' q l:=h.below hb h.lt
theorem j9.cell {w:World}{q:Nat}{l:List UInt8}(h:j9 w q l)(i:Nat)(b:UInt8)(hb:l[i]? =some b):w.cell? ⟨q,i,none⟩=some (.int .u8 (b.toNat:Nat)):=by
 obtain⟨cur,fz,h1,_,_,h3⟩:=h;rw[cell_of_row w q i cur _ fz h1];have e:(aJ l)[i]? =some (.int .u8 (b.toNat:Nat)):=by unfold aJ;rw[eH,hb];rfl
 rw[<-h3,mL]at e;split at e
 ·simpa using e
 ·cases e
theorem j9.free {w:World}{q:Nat}{l:List UInt8}(h:j9 w q l)(i:Nat)(hi:i<l.length):w.frozen? ⟨q,i,none⟩=false:=by
 obtain⟨cur,fz,h1,h2,h3,_⟩:=h;obtain⟨lo,uC⟩:=fz;simp only[World.frozen?,h1,Bool.and_eq_false_iff,decide_eq_false_iff_not];simp only at h2;omega
theorem j9.aP {w:World}{q:Nat}{l:List UInt8}(h:j9 w q l)(i:Nat)(b:UInt8):j9 (w.setCell ⟨q,i,none⟩ (.int .u8 (b.toNat:Nat))) q (l.set i b):=by
 obtain⟨cur,fz,h1,h2,h3,h4⟩:=h;refine⟨cur.setIfInBounds i (.int .u8 (b.toNat:Nat)),fz,?_,by simpa using h2,by simpa using h3,?_⟩
 ·simp[World.setCell,zG,h1]
 ·rw[iP,yc,List.take_set,h4];unfold aJ;rw[zQ]
theorem j9.far {w:World}{q:Nat}{l:List UInt8}(h:j9 w q l){p:Addr}(hp:q≠p.block)(u:Value):j9 (w.setCell p u) q l:=by
 obtain⟨cur,fz,h1,h2⟩:=h;exact⟨cur,fz,(Eo w p u q hp).trans h1,h2⟩
theorem j9.conv {P:Program}{w:World}{q:Nat}{l:List UInt8}(h:j9 w q l)(n c:Nat)(hn:n=l.length)(src dst e:TypeId)(hs:P.underlying src=some (.slice e))(he:P.underlying e=some (.int .u8))(hd:P.underlying dst=some .string):
 (convert src dst (.slice (some ⟨q,0,none⟩) n c)).run P w= .ok (.string (av l)) w:=by
 refine yn w src dst e _ c l n hn hs he hd λ j u hj=>?_;rw[eH]at hj
 cases hb:l[j]? with
 |none=>rw[hb]at hj;cases hj
 |some b=>
  rw[hb]at hj
  cases hj
  rw[lD,jd];exact h.cell j b hb
theorem j9.arP {w:World}{base:Nat}{g n cap:Nat}{l:List UInt8}(h:OwnB w base 5 (.slice (some ⟨g,0,none⟩) n cap) l):j9 w g l/\n=l.length/\n<=cap/\cap<=maxLen:=by
 obtain⟨g',Ia,cur,fz,e,_,h3,h4,h5,h6,h7,h8⟩:=h
 cases e
 exact⟨⟨cur,fz,h3,h4,by rw[h7];exact h5,h8⟩,rfl,h5,h6⟩
def sX (w wr:World)(q:Nat)(l:List UInt8):Prop:=j9 wr q l/\Below w.heap.size w wr/\w.heap.size<=q
theorem sX.below {w wr w':World}{q:Nat}{l:List UInt8}(h:sX w wr q l)(hb:Below wr.heap.size wr w'):sX w w' q l:=
 ⟨h.1.aL hb,h.2.1.trans (hb.mono h.2.1.size),h.2.2⟩
theorem sX.put {w wr:World}{q:Nat}{l:List UInt8}(h:sX w wr q l)(i:Nat)(b:UInt8):sX w (wr.setCell ⟨q,i,none⟩ (.int .u8 (b.toNat:Nat))) q (l.set i b):=
 ⟨h.1.aP i b,h.2.1.setCell (p:=⟨q,i,none⟩) h.2.2 _,h.2.2⟩
theorem arQ (key bJ:List UInt8)(bD j i:Nat)(hi:i<64):Av key bJ bD (64*j+i)=(xj key bJ (bD+j)).getD i 0:=by
 unfold Av;rw[show(64*j+i)/64=j from by omega,show(64*j+i)%64=i from by omega]
set_option maxRecDepth 100000 in
theorem aeP (key bJ s:ByteArray) (bD:Nat) (hk:key.size=32) (hn:bJ.size=12) (hc:bD<=1000000) (hs:s.size<=100000000) (dH:1<=s.size) (w:World):
 Calls Tryz.prog 44 #[.string key,.string bJ,.int .i64 (bD:Nat),.string s] w λ e w'=>e= .returned (.tuple #[.string (av (pI key.toList bJ.toList bD s.toList)),.int .i64 0])/\Below w.heap.size w w':=by
 have uk:=ae (λ w'=>arp key bJ bD hk hn aa w');have mC:=ae (λ (j:Nat) (hj:j<=100000000) w'=>arF key bJ (bD+j) hk hn aa w');have Ul:=ae (λ (j:Nat)=>af (ahR key.toList bJ.toList (bD+j)) (λ (i:Nat) (hi:i<64)=>arQ key.toList bJ.toList bD j i hi));obtain⟨kb,xn⟩:∃kb:Nat->List UInt8,(λ j=>xj key.toList bJ.toList (bD+j))=kb:=⟨_,rfl⟩;have aeQ:∀j,xj key.toList bJ.toList (bD+j)=kb j:=λ j=>congrFun xn j;simp only[aeQ]at mC Ul;obtain⟨X,hX⟩:∃X:Nat->List UInt8,(λ k=>sW key.toList bJ.toList bD k s.toList)=X:=⟨_,rfl⟩;have Ef:∀k,sW key.toList bJ.toList bD k s.toList=X k:=λ j=>congrFun hX j;obtain⟨n,tM⟩:∃n,s.size=n:=⟨_,rfl⟩;have vX:=ae (λ k=>show(X k).length=n by rw[<-Ef,arK,aD,tM]);have pO:=ae (show X 0=s.toList by rw[<-Ef,arL]);have gQ:=ae (λ k (h:n<=k)=>show X k=pI key.toList bJ.toList bD s.toList by rw[<-Ef,arM _ _ _ _ _ (by rw[aD,tM];exact h)])
 have aeR:=ae (λ k (h:k<n)=>show∃b,(X k)[k]? =some b/\X (k+1)=(X k).set k (b^^^Av key.toList bJ.toList bD k)by
  have bI:k<s.toList.length:=by rw[aD,tM];exact h
  exact⟨s.toList[k],by rw[<-Ef];exact arN _ _ _ _ _ bI,by rw[<-Ef,<-Ef];exact arO _ _ _ _ _ bI⟩)
 obtain⟨kc,sD⟩:∃kc:Nat->UInt8,(λ k=>Av key.toList bJ.toList bD k)=kc:=⟨_,rfl⟩;have aeS:∀k,Av key.toList bJ.toList bD k=kc k:=λ k=>congrFun sD k;simp only[aeS]at aeR Ul;obtain⟨Y,hY⟩:∃Y,av (pI key.toList bJ.toList bD s.toList)=Y:=⟨_,rfl⟩;have HY:=ae (λ k (h:n<=k)=>show av (X k)=Y by rw[<-hY,gQ.out k h]);rw[hY];obtain⟨Z,hZ⟩:∃Z,(List.replicate 64 (Value.int .u8 0)).toArray=Z:=⟨_,rfl⟩;have HZ:=ae (af hZ (show Z.size=64 by rw[<-hZ];rfl));obtain⟨m,hm⟩:∃m:Nat,((n:Int)-1)/64=(m:Int):=⟨((n:Int)-1).toNat/64,aa⟩;have fy:¬(4294967295-(bD:Int)<(m:Int)):=aa;have iT:(s.size:Int)=(n:Int):=aa;have K7:(0:Int)<(n:Int):=aa;have arR:n<=100000000:=aa;have aeT:=ae tM;clear xn aeQ hX Ef sD aeS tM hY gQ hk hn hs hZ dH;go_enter Tryz.func44,Tryz.ntmps44;go_wp2_with fail;(with_reducible refine(uk.out w).mono ?_);rintro e w2 ⟨rfl,aC⟩;have fT:=Go.Lib.run_convert_string_bytes (P:=Tryz.prog) w2 9 54 5 s Tryz.underlying9 Tryz.underlying54 Tryz.underlying5;have hO:=OwnB.conv w2 5 s (by rw[aeT.out];unfold maxLen;omega)
 have gZ:=Go.Lib.bytesWorld_below w2 5 s;obtain⟨cp,xO⟩:∃cp,grownCap w2 s.size 0 5=cp:=⟨_,rfl⟩;rw[xO]at fT hO;obtain⟨hA,_,cR,bT⟩:=j9.arP hO;have H0:Hid (sX w (Go.Lib.bytesWorld w2 5 s) w2.heap.size (X 0)):=ae ⟨by rw[pO.out];exact hA,aC.trans (gZ.mono aC.size),aC.size⟩;generalize Go.Lib.bytesWorld w2 5 s=w1 at*;rw[aeT.out]at fT cR;generalize w2.heap.size=q at*;have awg:cp<=9223372036854775807:=by unfold maxLen at bT;omega
 clear xO hO hA gZ bT aC uk;go_wp2_with fail;clear fT;go_loopw [11] (λ v wr=>∃(j a:Nat),v= .int .i64 (a:Nat)/\a<n+64/\Hid (a=64*j/\True)/\Hid (sX w wr q (X (min a n)))) (λ v _=>n+64-vnat v)
 case atStart=>exact⟨0,0,rfl,aa,ae ⟨rfl,trivial⟩,ae (by rw[Nat.zero_min];exact H0.out)⟩
 case round=>
  clear H0;obtain⟨wo,rfl⟩:∃wo,wo=wr:=⟨_,rfl⟩;obtain⟨j,a,rfl,ha,HJ,HX⟩:=hrel;by_cases ao:(a:Int)<(n:Int)
  ·have hj:=HJ.out.1;have awh:(a:Int)/64=(j:Int):=aa;obtain⟨cj,Qm⟩:∃cj:Nat,bD+j=cj:=⟨_,rfl⟩;have awi:(bD:Int)+(j:Int)=(cj:Int):=aa;have Kk:=ae (mC.out j aa);rw[Qm]at Kk;obtain⟨mV,Um⟩:=Ul.out j;obtain⟨K,hK⟩:∃K,kb j=K:=⟨_,rfl⟩;rw[hK]at Kk mV Um;have arS:=ae Um;obtain⟨CB,Kl⟩:∃CB,(aJ K).toArray=CB:=⟨_,rfl⟩;simp only[Kl]at Kk;have Ee:CB.size=64:=by rw[<-Kl,pv,je,mV]
   have Gp:=ae (show(Tryz.prog.info? 159).map (·.size)=some CB.size by rw[Ee];kernel_rfl);have nu:=ae (show CB.all (·.oneCell')=true by rw[<-Kl];exact aeI K);have aeU:=ae Ee;have Oe:=ae Kl;have ub:=ae mV;rw[lB aa]at HX;obtain⟨e,he⟩:∃e:Nat,min (a+64) n=e:=⟨_,rfl⟩;have n3:(if(a:Int)+64<(n:Int)then(a:Int)+64 else(n:Int))=(e:Int):=by split<;>omega
   have n4:min ((a:Int)+64) (n:Int)=(e:Int):=aa;have Km:(a:Int)<=(e:Int):=aa;have wR:(e:Int)<=(cp:Int):=aa;have arT:¬a=cp:=aa;have aeV:e<=n/\a<e/\e<=a+64/\(e=a+64∨e=n):=aa;have HE:=ae aeV;clear hj Qm hK Um Kl Ee mV he aeV;go_wp2_with fail;(with_reducible refine(Kk.out wo).mono ?_);rintro e w3 ⟨rfl,aO⟩;have fA:=ae (HX.out.below aO);clear aO HX Kk;go_upto_region 10 with(refine nG rfl 159 _ _ rfl w3.heap.size CB rfl rfl 159 _ (l_ w3 _) Gp.out (by rw[aeU.out];rfl) nu.out ?_);rw[<-Uj,HZ.out.1];have mv:=QP w3 159 Z CB;have H4:=ae (af (fA.out.below mv) (af (show Bk ((w3.alloc (.cells Z 159)).setRow w3.heap.size CB) w3.heap.size 159 CB from kd _ _ _ _ _ _ (l_ w3 _)) (show q<w3.heap.size from fA.out.1.lt)));generalize(w3.alloc (.cells Z 159)).setRow w3.heap.size CB=w4 at*;generalize w3.heap.size=qb at*;obtain⟨r,hr⟩:∃r:Nat,e-a=r:=⟨_,rfl⟩;have mE:=ae hr;have arU:(e:Int)-(a:Int)=(r:Int):=aa;have arV:((e:Int)-(a:Int)).toNat=r:=aa;have awj:r<=64:=by have:=HE.out;omega
   clear mv fA Gp nu aeU;go_wp2_with fail;have H5:Hid (sX w w4 q (X (a+0))/\Bk w4 qb 159 CB):=ae ⟨H4.out.1,H4.out.2.1⟩;have arW:=ae H4.out.2.2;clear H4 n3 n4 Km wR arT arU arV;go_loopw [59] (λ v wr=>∃i:Nat,v= .int .i64 (i:Nat)/\i<=r/\Hid (sX w wr q (X (a+i))/\Bk wr qb 159 CB)) (λ v _=>r-vnat v)
   case atStart=>exact⟨0,rfl,aa,H5⟩
   case round=>
    clear H5;obtain⟨wp,rfl⟩:∃wp,wp=wr:=⟨_,rfl⟩;obtain⟨i,rfl,hi,HY⟩:=hrel;by_cases OD:(i:Int)<(r:Int)
    ·obtain⟨b0,gZ,bu⟩:=aeR.out (a+i) (by have:=HE.out;have:=mE.out;omega);obtain⟨k0,eR⟩:∃k0,kc (a+i)=k0:=⟨_,rfl⟩;have aeW:K.getD i 0=k0:=by rw[<-eR,HJ.out.1,arS.out i aa]
     rw[eR]at bu;have p0:=HY.out.1.1.cell (a+i) b0 gZ;have f0:=HY.out.1.1.free (a+i) (by rw[vX.out];have:=HE.out;have:=mE.out;omega);have p1:=(HY.out.2.cell i).trans (show CB[i]? =some (.int .u8 (k0.toNat:Nat))by rw[<-Oe.out,Kg K i (by rw[ub.out];omega),aeW]);have hx:=R6 b0 k0;have amu:(i:Int)<64:=aa
     have HP:Hid (sX w (wp.drew.setCell ⟨q,a+i,none⟩ (.int .u8 (((b0^^^k0).toNat:Nat):Int))) q (X (a+(i+1)))/\Bk (wp.drew.setCell ⟨q,a+i,none⟩ (.int .u8 (((b0^^^k0).toNat:Nat):Int))) qb 159 CB):=ae ⟨by
      rw[show a+(i+1)=a+i+1 by omega,bu]
      exact sX.put (HY.out.1.below ((aB _ _).drew)) (a+i) _,Bk.far (Bk.drew HY.out.2) (p:=⟨q,a+i,none⟩) (show qb≠q by have:=arW.out;omega) _⟩
     clear gZ bu eR aeW HY;go_wp2_with fail;go_region
     all_goals
      go_wp2_with fail
      go_roundw
      case rel=>exact⟨i+1,by first|rfl|go_num,aa,HP⟩
      case measure=>simp[vnat];omega
    ·obtain rfl:i=r:=aa
     have arX:Hid (sX w wp q (X (min (a+64) n))):=ae (by
      have h:=HY.out.1
      have h1:=HE.out
      have h2:=mE.out
      rw[show a+i=min (a+64) n by omega]at h
      exact h)
     have awk:(a:Int)<=100000064:=aa;clear HY;go_wp2_with fail;go_roundw
     case rel=>exact⟨j+1,a+64,by first|rfl|go_num,aa,ae ⟨by have:=HJ.out.1;omega,trivial⟩,arX⟩
     case measure=>simp[vnat];omega
  ·rw[Nat.min_eq_right aa]at HX;have wT:=HX.out.1.conv (P:=Tryz.prog) n cp (vX.out n).symm 54 9 5 Tryz.underlying54 Tryz.underlying5 Tryz.underlying9
   rw[HY.out n (ai _)]at wT;go_wp2_with fail;go_ret2;exact⟨rfl,HX.out.2.1⟩
