import Derived.Test.YtajokjbmpjjoiaaGreatDoorP01
import Derived.Test.YtajokjbmpjjoiaaGreatDoorProg
set_option maxRecDepth 20000
set_option maxHeartbeats 0
set_option linter.unusedVariables false
namespace Go.Proofs.YtajokjbmpjjoiaaGreatDoor
section
open Go.RowKit
theorem Im (x k:Nat)(w:World)(h1:x<4294967296)(hk:k<=32):
 Calls Tryz.prog 235 #[.int .u32 x,.int .i64 k] w λ e w'=>e= .returned (.int .u32 (gJ x k:Nat))/\∃m,w'=w.drewN m:=by
 have hr:=agZ x k h1;go_enter Tryz.func235,Tryz.ntmps235;go_wp2_with fail;go_quiet (fail);go_wp2_with fail;go_ret;exact⟨rfl,_,rfl⟩
def Mm (x:Nat):Nat:=gJ x 7^^^gJ x 18^^^x/8
def Mn (x:Nat):Nat:=gJ x 17^^^gJ x 19^^^x/1024
def tO (W:List Nat):Nat:=(W.getD (W.length-16) 0+Mm (W.getD (W.length-15) 0)+W.getD (W.length-7) 0+Mn (W.getD (W.length-2) 0))%4294967296
def lu:Nat->List Nat->List Nat
 |0,W=>W
 |n+1,W=>lu n (W++[tO W])
def Dh (a b c d:Nat):Nat:=a*16777216+b*65536+c*256+d
def gC:List UInt8->List Nat
 |a::b::c::d::l=>Dh a.toNat b.toNat c.toNat d.toNat::gC l
 |_=>[]
def su:List Nat:=[1116352408,1899447441,3049323471,3921009573,961987163,1508970993,2453635748,2870763221,3624381080,310598401,607225278,1426881987,1925078388,2162078206,2614888103,3248222580,
 3835390401,4022224774,264347078,604807628,770255983,1249150122,1555081692,1996064986,2554220882,2821834349,2952996808,3210313671,3336571891,3584528711,113926993,338241895,
 666307205,773529912,1294757372,1396182291,1695183700,1986661051,2177026350,2456956037,2730485921,2820302411,3259730800,3345764771,3516065817,3600352804,4094571909,275423344,
 430227734,506948616,659060556,883997877,958139571,1322822218,1537002063,1747873779,1955562222,2024104815,2227730452,2361852424,2428436474,2756734187,3204031479,3329325298]
def Io (e f g h k w:Nat):Nat:=(h+(gJ e 6^^^gJ e 11^^^gJ e 25)+((e&&&f)^^^((4294967295-e)&&&g))+k+w)%4294967296
def Mo (a b c:Nat):Nat:=((gJ a 2^^^gJ a 13^^^gJ a 22)+((a&&&b)^^^(a&&&c)^^^(b&&&c)))%4294967296
def Fi:List Nat->Nat->Nat->List Nat
 |[a,b,c,d,e,f,g,h],k,w=>[(Io e f g h k w+Mo a b c)%4294967296,a,b,c,(d+Io e f g h k w)%4294967296,e,f,g]
 |v,_,_=>v
def qQ:List Nat->List Nat->List Nat->List Nat
 |v,k::ks,w::ws=>qQ (Fi v k w) ks ws
 |v,_,_=>v
def sv (h:List Nat)(b:List UInt8):List Nat:=List.zipWith (λ x y=>(x+y)%4294967296) h (qQ h su (lu 48 (gC b)))
def o6:List Nat:=[1779033703,3144134277,1013904242,2773480762,1359893119,2600822924,528734635,1541459225]
def qR (x:Nat):List UInt8:=[UInt8.ofNat (x/16777216),UInt8.ofNat (x/65536),UInt8.ofNat (x/256),UInt8.ofNat x]
def gM:Nat->List Nat->List UInt8->List Nat
 |0,h,_=>h
 |n+1,h,b=>gM n (sv h (b.take 64)) (b.drop 64)
def o7 (n:Nat):List UInt8:=128::(List.replicate ((119-n%64)%64) 0++qR (n*8/4294967296)++qR (n*8))
def ky (s:List UInt8):List UInt8:=(gM ((s.length+(o7 s.length).length)/64) o6 (s++o7 s.length)).flatMap qR
theorem QN (a b k:Nat)(h:b<2^k):a*2^k|||b=a*2^k+b:=by
 rw[ld];exact(Nat.two_pow_add_eq_or_of_lt h a).symm
theorem aks (b0 b1 b2 b3:UInt8):
 bits .or .u32 (bits .or .u32 (bits .or .u32 ((b0.toNat:Int)%4294967296*16777216%4294967296) ((b1.toNat:Int)%4294967296*65536%4294967296)) ((b2.toNat:Int)%4294967296*256%4294967296)) ((b3.toNat:Int)%4294967296)=(Dh b0.toNat b1.toNat b2.toNat b3.toNat:Nat):=by
 have h0:=gT b0;have h1:=gT b1;have h2:=gT b2;have h3:=gT b3;generalize b0.toNat=x0 at*;generalize b1.toNat=x1 at*;generalize b2.toNat=x2 at*;generalize b3.toNat=x3 at*
 rw[show(x0:Int)%4294967296*16777216%4294967296=((x0*2^24:Nat):Int)by simp only[Nat.reducePow];omega,
  show(x1:Int)%4294967296*65536%4294967296=((x1*2^16:Nat):Int)by simp only[Nat.reducePow];omega,
  show(x2:Int)%4294967296*256%4294967296=((x2*2^8:Nat):Int)by simp only[Nat.reducePow];omega,
  show(x3:Int)%4294967296=(x3:Int)by omega]
 have Mp:(2:Nat)^24=16777216:=rfl;have Di:(2:Nat)^16=65536:=rfl;have p8:(2:Nat)^8=256:=rfl;rw[Af _ _ (by rw[Mp];omega) (by rw[Di];omega),QN x0 _ 24 (by rw[Di,Mp];omega),Af _ _ (by rw[Mp,Di];omega) (by rw[p8];omega)];rw[show x0*2^24+x1*2^16=(x0*256+x1)*2^16 by rw[Mp,Di];omega,QN _ _ 16 (by rw[p8,Di];omega),Af _ _ (by rw[p8,Di];omega) aa];rw[show(x0*256+x1)*2^16+x2*2^8=((x0*256+x1)*256+x2)*2^8 by rw[Di,p8];omega,QN _ _ 8 (by rw[p8];omega)];unfold Dh;rw[p8];refine congrArg (λ n:Nat=>(n:Int)) ?_;omega
theorem QO:∀(i:Nat) (b:List UInt8),4*i<=b.length->(gC (b.take (4*i))).length=i
 |0,b,_=>by simp[gC]
 |i+1,x0::x1::x2::x3::l,h=>by
  rw[show 4*(i+1)=4*i+1+1+1+1 by omega];simp only[uu,gC,aU];rw[QO i l (by simp at h;omega)]
 |i+1,[],h|i+1,[_],h|i+1,[_,_],h|i+1,[_,_,_],h=>by simp at h<;>omega
theorem Yc:∀(i:Nat) (b:List UInt8) (b0 b1 b2 b3:UInt8),b[4*i]? =some b0->b[4*i+1]? =some b1->b[4*i+2]? =some b2->b[4*i+3]? =some b3->
 gC (b.take (4*(i+1)))=gC (b.take (4*i))++[Dh b0.toNat b1.toNat b2.toNat b3.toNat]
 |0,x0::x1::x2::x3::l,b0,b1,b2,b3,h0,h1,h2,h3=>by
  simp at h0 h1 h2 h3;subst h0 h1 h2 h3;simp[gC]
 |i+1,x0::x1::x2::x3::l,b0,b1,b2,b3,h0,h1,h2,h3=>by
  have ih:=Yc i l b0 b1 b2 b3;rw[show 4*(i+1)=4*i+1+1+1+1 by omega]at h0 h1 h2 h3;rw[show 4*(i+1+1)=4*(i+1)+1+1+1+1 by omega,show 4*(i+1)=4*i+1+1+1+1 by omega];simp only[uu,gC,gU];rw[show 4*i+1+1+1+1=4*(i+1)by omega,ih (by simpa using h0) (by simpa using h1) (by simpa using h2) (by simpa using h3)]
 |i,[],b0,_,_,_,h,_,_,_=>by simp at h
 |i,[_],_,b1,_,_,_,h,_,_=>by rw[s7 aj]at h;cases h
 |i,[_,_],_,_,b2,_,_,_,h,_=>by rw[s7 aj]at h;cases h
 |i,[_,_,_],_,_,_,b3,_,_,_,h=>by rw[s7 aj]at h;cases h
theorem akt (x k:Nat)(h:x<4294967296):bits .or .u32 ((x:Int)*2^k%4294967296) ((x:Int)/2^(32-k))=(qC x k:Nat):=by
 unfold qC;have e1:((x:Int)*2^k%4294967296)=((x*2^k%4294967296:Nat):Int):=aj;have e2:((x:Int)/2^(32-k))=((x/2^(32-k):Nat):Int):=aj;rw[e1,e2];exact Af _ _ (rR _ (show 0<4294967296 by omega)) (Nat.lt_of_le_of_lt (Nat.div_le_self _ _) h)
theorem aku (x k:Nat)(w:World)(h1:x<4294967296)(hk:k<=32):
 Calls Tryz.prog 287 #[.int .u32 x,.int .i64 k] w λ e w'=>e= .returned (.int .u32 (qC x k:Nat))/\∃m,w'=w.drewN m:=by
 have hr:=akt x k h1;go_enter Tryz.func287,Tryz.ntmps287;go_wp2_with fail;go_quiet (fail);go_wp2_with fail;go_ret;exact⟨rfl,_,rfl⟩
theorem Yd {w w':World}(h:∃m,w'=w.drewN m):Below w.heap.size w w':=by
 obtain⟨m,rfl⟩:=h;exact⟨rfl,rfl,rfl,ai _,λ _ _=>rfl⟩
theorem akv (a b c d:Nat)(w:World)(ha:a<4294967296)(hb:b<4294967296)(hc:c<4294967296)(hd:d<4294967296):
 Calls Tryz.prog 218 #[.int .u32 a,.int .u32 b,.int .u32 c,.int .u32 d] w λ e w'=>e= .returned (.tuple #[.int .u32 (xc a b c d:Nat),.int .u32 (Au a b c d:Nat),.int .u32 (xf a b c d:Nat),.int .u32 (xe a b c d:Nat)])/\Below w.heap.size w w':=by
 have HT:Hid (∀(x k y:Nat) (w':World),qC x k=y->x<4294967296->k<=32->Calls Tryz.prog 287 #[.int .u32 (x:Nat),.int .i64 (k:Nat)] w' λ e bO=>e= .returned (.int .u32 (y:Nat))/\Below w'.heap.size w' bO):=ae λ x k y w' he h1 h2=>(aku x k w' h1 h2).mono λ e w2 ⟨h,hm⟩=>⟨by rw[h,he],Yd hm⟩;obtain⟨a1,Ye⟩:∃x,(a+b)%4294967296=x:=⟨_,rfl⟩;have aul:a1<4294967296:=aa;have aum:((a:Int)+(b:Int))%4294967296=(a1:Int):=aa;obtain⟨x1,Mq⟩:∃x,d^^^a1=x:=⟨_,rfl⟩;have Yf:x1<4294967296:=by rw[<-Mq];exact py (n:=32) aa aa
 have aun:bits .xor .u32 (d:Int) (a1:Int)=(x1:Int):=by rw[oR _ _ aa aa,Mq]
 obtain⟨d1,Mr⟩:∃y,qC x1 16=y:=⟨_,rfl⟩;have auo:d1<4294967296:=by rw[<-Mr];exact Ar _ _ Yf
 have Yg:Hid (∀w',Calls Tryz.prog 287 #[.int .u32 (x1:Nat),.int .i64 16] w' λ e bO=>e= .returned (.int .u32 (d1:Nat))/\Below w'.heap.size w' bO):=ae λ w'=>HT.out x1 16 d1 w' Mr Yf aa;obtain⟨c1,Yh⟩:∃x,(c+d1)%4294967296=x:=⟨_,rfl⟩;have aup:c1<4294967296:=aa;have auq:((c:Int)+(d1:Int))%4294967296=(c1:Int):=aa;obtain⟨x2,Ms⟩:∃x,b^^^c1=x:=⟨_,rfl⟩;have Yi:x2<4294967296:=by rw[<-Ms];exact py (n:=32) aa aa
 have aur:bits .xor .u32 (b:Int) (c1:Int)=(x2:Int):=by rw[oR _ _ aa aa,Ms]
 obtain⟨b1,Mt⟩:∃y,qC x2 12=y:=⟨_,rfl⟩;have Mu:b1<4294967296:=by rw[<-Mt];exact Ar _ _ Yi
 have Yj:Hid (∀w',Calls Tryz.prog 287 #[.int .u32 (x2:Nat),.int .i64 12] w' λ e bO=>e= .returned (.int .u32 (b1:Nat))/\Below w'.heap.size w' bO):=ae λ w'=>HT.out x2 12 b1 w' Mt Yi aa;obtain⟨a2,Yk⟩:∃x,(a1+b1)%4294967296=x:=⟨_,rfl⟩;have aus:a2<4294967296:=aa;have aut:((a1:Int)+(b1:Int))%4294967296=(a2:Int):=aa;obtain⟨x3,Mv⟩:∃x,d1^^^a2=x:=⟨_,rfl⟩;have Yl:x3<4294967296:=by rw[<-Mv];exact py (n:=32) aa aa
 have auu:bits .xor .u32 (d1:Int) (a2:Int)=(x3:Int):=by rw[oR _ _ aa aa,Mv]
 obtain⟨d2,Mw⟩:∃y,qC x3 8=y:=⟨_,rfl⟩;have auv:d2<4294967296:=by rw[<-Mw];exact Ar _ _ Yl
 have Ym:Hid (∀w',Calls Tryz.prog 287 #[.int .u32 (x3:Nat),.int .i64 8] w' λ e bO=>e= .returned (.int .u32 (d2:Nat))/\Below w'.heap.size w' bO):=ae λ w'=>HT.out x3 8 d2 w' Mw Yl aa;obtain⟨c2,Yn⟩:∃x,(c1+d2)%4294967296=x:=⟨_,rfl⟩;have auw:c2<4294967296:=aa;have fV:((c1:Int)+(d2:Int))%4294967296=(c2:Int):=aa;obtain⟨x4,Mx⟩:∃x,b1^^^c2=x:=⟨_,rfl⟩;have Yo:x4<4294967296:=by rw[<-Mx];exact py (n:=32) aa aa
 have auy:bits .xor .u32 (b1:Int) (c2:Int)=(x4:Int):=by rw[oR _ _ aa aa,Mx]
 obtain⟨b2,My⟩:∃y,qC x4 7=y:=⟨_,rfl⟩;have Mz:b2<4294967296:=by rw[<-My];exact Ar _ _ Yo
 have Yp:Hid (∀w',Calls Tryz.prog 287 #[.int .u32 (x4:Nat),.int .i64 7] w' λ e bO=>e= .returned (.int .u32 (b2:Nat))/\Below w'.heap.size w' bO):=ae λ w'=>HT.out x4 7 b2 w' My Yo aa;have f1:Hb a b=a1:=Ye;have f2:E1 a b d=d1:=by unfold E1;rw[f1,Mq,Mr]
 have f3:E2 a b c d=c1:=by unfold E2;rw[f2,Yh]
 have f4:E3 a b c d=b1:=by unfold E3;rw[f3,Ms,Mt]
 have f5:xc a b c d=a2:=by unfold xc;rw[f1,f4,Yk]
 have f6:xe a b c d=d2:=by unfold xe;rw[f2,f5,Mv,Mw]
 have f7:xf a b c d=c2:=by unfold xf;rw[f3,f6,Yn]
 have f8:Au a b c d=b2:=by unfold Au;rw[f4,f7,Mx,My]
 rw[f5,f6,f7,f8];clear f1 f2 f3 f4 f5 f6 f7 f8 Ye Mq Mr Yh Ms Mt Yk Mv Mw Yn Mx My HT;go_enter Tryz.func218,Tryz.ntmps218;have HB:=ae (aB w.heap.size w);go_wp2_with fail;(with_reducible refine(Yg.out _).mono ?_);rintro e auz ⟨rfl,hb⟩;have HB:=ae (HB.out.trans (hb.mono HB.out.size));clear hb Yg;go_wp2_with fail;(with_reducible refine(Yj.out _).mono ?_);rintro e auA ⟨rfl,hb⟩;have HB:=ae (HB.out.trans (hb.mono HB.out.size));clear hb Yj;go_wp2_with fail;(with_reducible refine(Ym.out _).mono ?_);rintro e auB ⟨rfl,hb⟩;have HB:=ae (HB.out.trans (hb.mono HB.out.size));clear hb Ym;go_wp2_with fail;(with_reducible refine(Yp.out _).mono ?_);rintro e auC ⟨rfl,hb⟩;have HB:=ae (HB.out.trans (hb.mono HB.out.size));clear hb Yp;go_wp2_with fail;refine eX (v:=.tuple #[.int .u32 (a2:Nat),.int .u32 (b2:Nat),.int .u32 (c2:Nat),.int .u32 (d2:Nat)]) (by simp[results,Tryz.results218,go_sem]) rfl ⟨rfl,HB.out⟩
theorem akw (a b c d:Nat)(ha:a<256)(hb:b<256)(hc:c<256)(hd:d<256):bits .or .u32 (bits .or .u32 (bits .or .u32 ((a:Int)%4294967296) ((b:Int)%4294967296*256%4294967296)) ((c:Int)%4294967296*65536%4294967296)) ((d:Int)%4294967296*16777216%4294967296)=((a|||b*256|||c*65536|||d*16777216:Nat):Int):=by
 have ea:(a:Int)%4294967296=((a:Nat):Int):=aa;have eb:(b:Int)%4294967296*256%4294967296=((b*256:Nat):Int):=aa;have ec:(c:Int)%4294967296*65536%4294967296=((c*65536:Nat):Int):=aa;have ed:(d:Int)%4294967296*16777216%4294967296=((d*16777216:Nat):Int):=aa;have l1:a|||b*256<4294967296:=uw (n:=32) aa aa;have l2:a|||b*256|||c*65536<4294967296:=uw (n:=32) l1 aa;rw[ea,eb,ec,ed,Af _ _ aa aa,Af _ _ l1 aa,Af _ _ l2 aa]
theorem MA (s:ByteArray)(i:Nat)(h:i<s.size):s.toList.getD i 0=s[i]:=by
 rw[kY,a_,rM,wK (show i<s.data.size from h)];rfl
theorem Yq (s:ByteArray)(i:Nat)(h:4*i+4<=s.size)(hs:s.size<=1000)(w:World):
 Calls Tryz.prog 217 #[.string s,.int .i64 i] w λ e w'=>e= .returned (.int .u32 (jU s.toList i:Nat))/\Below w.heap.size w w':=by
 obtain⟨p,hp⟩:∃p,4*i=p:=⟨_,rfl⟩;have auD:(4:Int)*(i:Int)=(p:Int):=aa;obtain⟨p1,cN⟩:∃q,p+1=q:=⟨_,rfl⟩;obtain⟨p2,dV⟩:∃q,p+2=q:=⟨_,rfl⟩;obtain⟨p3,mQ⟩:∃q,p+3=q:=⟨_,rfl⟩;have e1:(p:Int)+1=(p1:Int):=aa;have e2:(p:Int)+2=(p2:Int):=aa;have e3:(p:Int)+3=(p3:Int):=aa;have h1:(p:Int)<(s.size:Int):=aa;have h2:(p1:Int)<(s.size:Int):=aa;have h3:(p2:Int)<(s.size:Int):=aa;have h4:(p3:Int)<(s.size:Int):=aa;have w0:IntKind.i64.wrap (p:Int)=(p:Int):=ER p aa;have w1:IntKind.i64.wrap (p1:Int)=(p1:Int):=ER p1 aa;have w2:IntKind.i64.wrap (p2:Int)=(p2:Int):=ER p2 aa;have w3:IntKind.i64.wrap (p3:Int)=(p3:Int):=ER p3 aa;have HP:=ae (af hp (af cN (af dV mQ)));clear hp cN dV mQ h hs;go_enter Tryz.func217,Tryz.ntmps217;go_wp2_with fail;go_quiet (fail);go_wp2_with fail;go_ret;refine⟨?_,Yd ⟨_,rfl⟩⟩;obtain⟨g1,g2,g3,g4⟩:=HP.out
 have e:jU s.toList i=((s[p]'aa).toNat|||(s[p1]'aa).toNat*256|||(s[p2]'aa).toNat*65536|||(s[p3]'aa).toNat*16777216):=by
  unfold jU;rw[g1,g2,g3,g4,MA s p aa,MA s p1 aa,MA s p2 aa,MA s p3 aa]
 have hw:=akw (s[p]'aa).toNat (s[p1]'aa).toNat (s[p2]'aa).toNat (s[p3]'aa).toNat (gT _) (gT _) (gT _) (gT _);rw[e,<-hw];rfl
