import Derived.Test.YtajokjbmpjjoiaaGreatDoorP09
import Derived.Test.YtajokjbmpjjoiaaGreatDoorP46
import Derived.Test.YtajokjbmpjjoiaaGreatDoorP47
set_option maxRecDepth 20000
set_option maxHeartbeats 0
set_option linter.unusedSimpArgs false
set_option linter.unusedVariables false
namespace Go.Proofs.YtajokjbmpjjoiaaGreatDoor
section
namespace Ev
open Go.RowKit Go.Lib
def one:ByteArray:=⟨#[115]⟩
def Ck:ByteArray:=⟨#[]⟩
def Pk (str:Nat->Option (List UInt8))(num:Nat->Option Int)(b:Nat):Prop:=
 ∃(bs raw:Int) (R T B:ByteArray),fU 1 eP 1 bs raw R T=true/\rf (ph one) 1 eP 1 bs raw R=T/\BF 32 B.toList=R.toList/\B.size=224/\
  str b=some R.toList/\str (b+1)=some T.toList/\str (b+2)=some B.toList/\str (b+3)=some (kT 1 eP 1 bs raw R T).toList/\num b=some bs/\num (b+1)=some raw
def Em (str:Nat->Option (List UInt8))(num:Nat->Option Int):Prop:=
 str 1=some eP.toList/\str 10=some (iY one Ck).toList/\str 11=some (iZ one Ck).toList/\str 12=some (ph one).toList/\
  ∀k,16<=k->((str k).isSome=true∨(num k).isSome=true)->Pk str num (k/16*16)
def Ky (k:Nat):Option (List UInt8):=if k=1 then some eP.toList else if k=10 then some (iY one Ck).toList else if k=11 then some (iZ one Ck).toList else if k=12 then some (ph one).toList else none
theorem ati:Em Ky (λ _=>none):=⟨rfl,rfl,rfl,rfl,λ k hk h=>by
 unfold Ky at h;rw[if_neg aa,if_neg aa,if_neg aa,if_neg aa]at h;rcases h with h|h<;>cases h⟩
def Z0:Th:={bw:=λ _=>none,cap:=λ _=>none,str:=Ky,num:=λ _=>none,law:=Em,ok:=ati}
variable {θ:Th} {s:S} {w0:Bs} {w:World} {P:Program}
theorem En (h:Z0.le θ):Em θ.str θ.num:=by
 have h1:=θ.ok;rw[h.law]at h1;exact h1
theorem Rel.later {w':World}(h:Rel P θ s w0 w)(hb:Below w.heap.size w w'):Rel P θ s w0 w':=by
 have hs:=hb.size;refine⟨h.below.trans (hb.mono h.below.size),λ x b hx=>?_,h.inj,λ x o b h1 h2=>?_,h.new,h.tu,h.sym⟩
 ·have:=h.bw x b hx;omega
 ·exact(h.obj x o b h1 h2).mono (.refl θ) (hb.block b (h.bw x b h2).2)
theorem uq {f:Nat}{A:Array Value}{v:V3}{V:Value}(hR:Rel P θ s w0 w)(hV:dQ θ v=some V)(h:Calls P f A w λ e w'=>e= .returned V/\Below w.heap.size w w'):
 Calls P f A w λ e w'=>∃aF V,e= .returned V/\θ.le aF/\dQ aF v=some V/\Rel P aF s w0 w':=
 h.mono λ _ _ ⟨h1,h2⟩=>⟨θ,V,h1,.refl θ,hV,hR.later h2⟩
theorem nC {k n:Nat}{t:ByteArray}(h:θ.str k=some t.toList)(hn:t.size=n):br θ (.s [.a k n])=some (.string t):=by
 simp only[br,cE,h];rw[if_pos (by rw[aD];exact hn),bV];show some (Value.string (av t.toList))=_;rw[kf]
theorem afT {k n:Nat}{V:Value}(h:br θ (.s [.a k n])=some V):∃t,θ.str k=some t/\t.length=n/\V= .string (av t):=by
 obtain⟨b,hb,rfl⟩:=pC h;obtain⟨t,r,h1,h2,rfl⟩:=O_ hb
 cases h2
 refine⟨t,h1,?_,by rw[bV];rfl⟩;simp only[cE,h1]at hb;split at hb
 ·assumption
 ·cases hb
theorem atj {b:Nat}(h:b%16=0):b/16*16=b:=aa
theorem Vb {b:Nat}(hZ:Z0.le θ)(h1:b%16=0)(h2:16<=b){V:Value}(h:cX θ (.g (hd b))=some V):
 ∃(bs raw:Int) (R T B:ByteArray),fU 1 eP 1 bs raw R T=true/\rf (ph one) 1 eP 1 bs raw R=T/\BF 32 B.toList=R.toList/\B.size=224/\
  θ.str (b+2)=some B.toList/\θ.str (b+3)=some (kT 1 eP 1 bs raw R T).toList/\V=uX 1 eP 1 bs raw R T:=by
 obtain⟨l1,l2,l3,l4,l5⟩:=En hZ
 have hn:(θ.num b).isSome=true:=by
  obtain⟨L,hL,rfl⟩:=yt h;simp only[hd,cf]at hL
  cases hb:θ.num b with
  |some _=>rfl
  |none=>simp[br,hb]at hL
 obtain⟨bs,raw,R,T,B,e1,e2,e3,e4,e5,e6,e7,e8,e9,x_⟩:=l5 b h2 (.inr hn);rw[atj h1]at*;refine⟨bs,raw,R,T,B,e1,e2,e3,e4,e7,e8,?_⟩;have hz:=fZ e1;have q1:=nC (θ:=θ) (n:=16) l1 BG;have q2:=nC (θ:=θ) (n:=32) e5 aa;have q3:=nC (θ:=θ) (n:=32) e6 aa;have q4:br θ (.at b)=some (.int .i64 bs):=by simp[br,e9]
 have q5:br θ (.at (b+1))=some (.int .i64 raw):=by simp[br,x_]
 have q6:br θ (.i .i64 1)=some (.int .i64 1):=rfl;simp only[cX,hd,cf,q1,q2,q3,q4,q5,q6,Option.bind_some,Option.map_some,Es]at h;exact h.symm
theorem Vc {l:List V1}{b:Nat}(h:GS l=some b):l=hd b/\b%16=0/\16<=b:=by
 unfold GS at h;split at h
 ·split at h
  ·rename_i hc;simp only[k_,beq_iff_eq,Nat.ble_eq]at hc
   cases h
   exact⟨Fe V1.sr hc.1.1,hc.1.2,hc.2⟩
  ·cases h
 ·cases h
theorem one_den {v:V2}{A:List Value}(h:ew θ [v]=some A):∃V,cX θ v=some V/\A=[V]:=by
 simp only[ew]at h;obtain⟨V,h1,h2⟩:=dq.1 h
 cases h2;exact⟨V,h1,rfl⟩
theorem Kz {v u:V2}{A:List Value}(h:ew θ [v,u]=some A):∃V U,cX θ v=some V/\cX θ u=some U/\A=[V,U]:=by
 rw[ew]at h;obtain⟨V,h1,h2⟩:=dq.1 h;obtain⟨L,h3,rfl⟩:=bp.1 h2;obtain⟨U,h4,rfl⟩:=one_den h3;exact⟨V,U,h1,h4,rfl⟩
abbrev Line (f:Nat)(k:List V2->S->Option (V3×S)):Prop:=∀ar s v s',k ar s=some (v,s')->∀θ w0 w A,Z0.le θ->Rel Tryz.prog θ s w0 w->ew θ ar=some A->
 Calls Tryz.prog f A.toArray w λ e w'=>∃aF V,e= .returned V/\θ.le aF/\dQ aF v=some V/\Rel Tryz.prog aF s' w0 w'
theorem atk:Line 12 k1:=by
 intro ar s v s' h θ w0 w A hZ hR hA;unfold k1 at h;split at h
 ·cases h
  obtain rfl:A=[.string one,.string Ck]:=(cG hA).symm;obtain⟨l1,l2,l3,l4,l5⟩:=En hZ;refine uq hR ?_ (Sf one Ck aA aA w);simp only[dQ,cX,cf,nC (θ:=θ) l2 (Sd one Ck),nC (θ:=θ) l3 (Se one Ck),nC (θ:=θ) l4 (Nx one)];rfl
 ·cases h
theorem atl:Line 125 k2:=by
 intro ar s v s' h θ w0 w A hZ hR hA;unfold k2 at h;split at h
 ·cases h
  obtain rfl:A=[.int .i64 1]:=(cG hA).symm;exact uq hR (nC (En hZ).1 BG) (aoW w)
 ·cases h
theorem atm:Line 243 k4:=by
 intro ar s v s' h θ w0 w A hZ hR hA;unfold k4 at h;split at h
 ·rename_i hl;obtain⟨b,hb,h⟩:=bp.1 h
  cases h
  obtain⟨rfl,h1,h2⟩:=Vc hb;obtain⟨V,U,hV,hU,rfl⟩:=Kz hA;obtain⟨bs,raw,R,T,B,e1,e2,_,_,_,_,rfl⟩:=Vb hZ h1 h2 hU;rw[show cX θ (.o (.s [.a 12 32]))=_ from nC (θ:=θ) (En hZ).2.2.2.1 (Nx one)]at hV
  cases hV
  exact uq hR rfl (anQ (ph one) 1 eP 1 bs raw R T (by rw[Nx];decide) e1 e2 w)
 ·cases h
theorem atn:Line 78 k5:=by
 intro ar s v s' h θ w0 w A hZ hR hA;unfold k5 at h;split at h
 ·rename_i hl;obtain⟨b,hb,h⟩:=bp.1 h
  cases h
  obtain⟨rfl,h1,h2⟩:=Vc hb;obtain⟨U,hU,rfl⟩:=one_den hA;obtain⟨bs,raw,R,T,B,e1,e2,_,_,_,_,rfl⟩:=Vb hZ h1 h2 hU;have hc:=Mf 1 eP 1 bs raw R T w;rw[e1]at hc;exact uq hR rfl hc
 ·cases h
theorem ato:Line 35 k6:=by
 intro ar s v s' h θ w0 w A hZ hR hA;unfold k6 at h;split at h
 ·rename_i hl;obtain⟨b,hb,h⟩:=bp.1 h
  cases h
  obtain⟨rfl,h1,h2⟩:=Vc hb;obtain⟨U,hU,rfl⟩:=one_den hA;obtain⟨bs,raw,R,T,B,e1,e2,_,_,_,e8,rfl⟩:=Vb hZ h1 h2 hU;have hz:=fZ e1;refine uq hR (EN (nC e8 ?_) rfl) (aaY 1 eP 1 bs raw R T w e1);unfold kT;rw[pB,F0,BG];omega
 ·cases h
theorem atp (id:Int)(sa:ByteArray)(n bs raw:Int)(ro ta:ByteArray):(kT id sa n bs raw ro ta).toList=[83,76,71,49]++(be id 4++(sa.toList++(be n 2++(be bs 4++(be raw 4++(ro.toList++ta.toList)))))):=by
 unfold kT nZ;simp only[CE,cn,aN];rw[show(⟨#[83,76,71,49]⟩:ByteArray).toList=[83,76,71,49]from cn [83,76,71,49]]
theorem atq:Line 38 k7:=by
 intro ar s v s' h θ w0 w A hZ hR hA;unfold k7 at h;split at h
 ·rename_i k;split at h
  ·rename_i hc;simp only[k_,beq_iff_eq,Nat.ble_eq]at hc
   cases h
   obtain⟨U,hU,rfl⟩:=one_den hA;obtain⟨t,h1,h2,rfl⟩:=afT hU;obtain⟨l1,l2,l3,l4,l5⟩:=En hZ;obtain⟨bs,raw,R,T,B,e1,e2,e3,e4,e5,e6,e7,e8,e9,x_⟩:=l5 k hc.2 (.inl (by rw[h1];rfl));rw[show k/16*16=k-3 by omega]at*;rw[show k-3+3=k by omega]at e8;rw[h1]at e8;cases e8;have hz:=fZ e1;rw[kf];refine uq hR ?_ (Ya _ 1 eP 1 bs raw R T e1 (atp _ _ _ _ _ _ _) w);refine EN ?_ rfl;have q1:=nC (θ:=θ) (n:=16) l1 BG;have q2:=nC (θ:=θ) (n:=32) e5 aa;have q3:=nC (θ:=θ) (n:=32) e6 aa;have q4:br θ (.at (k-3))=some (.int .i64 bs):=by simp[br,e9]
   have q5:br θ (.at (k-3+1))=some (.int .i64 raw):=by simp[br,x_]
   have q6:br θ (.i .i64 1)=some (.int .i64 1):=rfl;simp only[cX,hd,cf,q1,q2,q3,q4,q5,q6,Option.bind_some,Option.map_some]
  ·cases h
 ·cases h
theorem atr:Line 62 k8:=by
 intro ar s v s' h θ w0 w A hZ hR hA;unfold k8 at h;split at h
 ·rename_i k;split at h
  ·rename_i hc;simp only[k_,beq_iff_eq,Nat.ble_eq]at hc
   cases h
   obtain⟨V,U,hV,hU,rfl⟩:=Kz hA
   cases hV
   obtain⟨t,h1,h2,rfl⟩:=afT hU;obtain⟨l1,l2,l3,l4,l5⟩:=En hZ;obtain⟨bs,raw,R,T,B,e1,e2,e3,e4,e5,e6,e7,e8,e9,x_⟩:=l5 k hc.2 (.inl (by rw[h1];rfl));rw[show k/16*16=k-2 by omega]at*;rw[show k-2+2=k by omega]at e7;rw[h1]at e7;cases e7;have hz:=fZ e1;rw[kf];have hl:=abS 32 B aa w;rw[e3,kf]at hl;exact uq hR (nC e5 aa) hl
  ·cases h
 ·cases h
theorem ats (l:List UInt8):br θ (.s (GF l))=some (.string (av l)):=by
 simp only[br,Vp];rfl
theorem att:Line 87 k9:=by
 intro ar s v s' h θ w0 w A hZ hR hA;unfold k9 at h;split at h
 ·rename_i n k
  cases h
  obtain rfl:A=[.int .i64 n,.int .i64 k]:=(cG hA).symm;exact uq hR (ats _) (Fg n k w)
 ·cases h
theorem atu:∀{l:List Pc} {r:Option Nat} {n:Nat} {L:List UInt8},Lc l r=some n->cE θ l=some L->∃m,r=some m/\L.foldl (λ n b=>n*256+b.toNat) m=n:=by
 intro l;induction l with
 |nil=>intro r n L h k;cases k;exact⟨n,h,rfl⟩
 |cons p l ih=>
  intro r n L h k
  cases p with
  |b x=>
   cases r with
   |none=>cases h
   |some m=>
    obtain⟨hx,r,hr,rfl⟩:=tw k;obtain⟨m2,h1,h2⟩:=ih h hr
    cases h1
    refine⟨m,rfl,?_⟩;simp only[kH];rw[show(UInt8.ofNat x).toNat=x by rw[yb];exact Cm hx];exact h2
  |z j=>
   cases r with
   |none=>cases h
   |some m=>
    obtain⟨r,hr,rfl⟩:=oO k;obtain⟨m2,h1,h2⟩:=ih h hr
    cases h1
    refine⟨m,rfl,?_⟩;rw[rT]
    have:∀j m,(List.replicate j (0:UInt8)).foldl (λ n b=>n*256+b.toNat) m=m*256^j:=by
     intro j;induction j with
     |zero=>intro m;simp
     |succ j ih=>intro m;rw[qg,kH,ih,Nat.pow_succ];simp[zK,ld]
    rw[this];exact h2
  |a k n=>cases r<;>cases h
theorem atv:Line 83 Pt:=by
 intro ar s v s' h θ w0 w A hZ hR hA;unfold Pt at h;split at h
 ·rename_i t k;split at h
  ·cases h
  ·rename_i hk;obtain⟨V,U,hV,hU,rfl⟩:=Kz hA
   cases hU
   obtain⟨L,hL,rfl⟩:=pC hV;have hlen:=zX hL;have hc:=XW (av L) (k:Nat) w (by rw[cV];omega);unfold yQ at hc;rw[cn]at hc;split at h
   ·rename_i mV;split at h
    ·rename_i a b ha hb;split at h
     ·rename_i n hn;split at h
      ·rename_i iR
       cases h
       have hT:=Vw ha hL;have hD:=O' hb hL;obtain⟨m,hm,atw⟩:=atu hn hT
       cases hm
       have e:ij L (k:Nat)=((n:Int),L.drop k,0):=by
        unfold ij;rw[if_neg aa,if_neg aa,Int.toNat_natCast];have h2:Go.Proofs.YtajokjbmpjjoiaaGreatDoor.num (L.take k)=n:=atw;rw[h2,EG _ aa aa]
       rw[e]at hc;refine uq hR ?_ hc;have h3:br θ (.s b)=some (.string (av (L.drop k))):=by simp only[br,hD];rfl
       simp only[dQ,ew,cX,h3];rfl
      ·cases h
     ·cases h
    ·cases h
   ·rename_i mV
    cases h
    have e:ij L (k:Nat)=(0,[],2):=by
     unfold ij;rw[if_neg aa,if_pos aa]
    rw[e]at hc;exact uq hR rfl hc
 ·cases h
theorem atx:Line 59 Pu:=by
 intro ar s v s' h θ w0 w A hZ hR hA;unfold Pu at h;split at h
 ·rename_i k;split at h
  ·rename_i hk
   cases h
   obtain rfl:A=[.string ⟨#[0]⟩,.int .i64 (k:Nat)]:=(cG hA).symm;refine uq hR ?_ (abQ k (k:Nat) rfl _ rfl hk w);simp only[dQ,cX,br,cE,Option.map_some,bV];rfl
  ·cases h
 ·cases h
theorem aty:∀{t:List Pc} {L:List UInt8},Ps t=true->cE θ t=some L->∀b∈L,b=0:=by
 intro t;induction t with
 |nil=>intro L _ h;cases h;simp
 |cons p t ih=>
  intro L h k
  cases p with
  |z n=>
   obtain⟨r,hr,rfl⟩:=oO k;intro b hb;rcases fE.1 hb with hb|hb
   ·exact List.eq_of_mem_replicate hb
   ·exact ih h hr b hb
  |_=>cases h
theorem drop_zero:∀{l:List UInt8},(∀b∈l,b=0)->l.dropWhile (·==0)=[]:=by
 intro l;induction l with
 |nil=>exact λ _=>rfl
 |cons x l ih=>
  intro h;rw[List.dropWhile_cons,if_pos (by rw[h x aj];rfl)];exact ih λ b hb=>h b (by simp[hb])
theorem atz {l:List UInt8}(h:∀b∈l,b=0):Lib.trimB l 0=[]:=by
 unfold Lib.trimB Lib.trimRightB Lib.trimLeftB;have h1:l.reverse.dropWhile (·==0)=[]:=drop_zero λ b hb=>h b (List.mem_reverse.1 hb);simp[h1]
theorem atA:Line 239 Pv:=by
 intro ar s v s' h θ w0 w A hZ hR hA;unfold Pv at h;split at h
 ·rename_i t;split at h
  ·rename_i hk
   cases h
   obtain⟨V,U,hV,hU,rfl⟩:=Kz hA;obtain rfl:U= .string ⟨#[0]⟩:=(cG hU).symm;obtain⟨L,hL,rfl⟩:=pC hV;have hlen:=zX hL;have hz:=aty hk.1 hL;refine uq hR rfl ((Tryz.strings_Trim_one (av L) 0 aA w (by rw[cV];omega)).mono ?_);rintro e w' ⟨rfl,hw⟩;rw[show(av L).data.toList=L from rfl,atz hz];refine⟨rfl,?_⟩;rcases hw with rfl|rfl
   ·exact aB _ _
   ·exact(aB _ _).drew
  ·cases h
 ·cases h
end Ev
end
section
namespace Ev
open Go.RowKit Go.Lib
variable {θ aF:Th} {s:S} {w0:Bs} {w w':World} {P:Program}
theorem Rel.atB (h:Rel P θ s w0 w)(hb:Below w.heap.size w w'){g:Nat}{o:O}{c:Option Nat}(hg:w.heap.size<=g)(dU:g<w'.heap.size)(hle:θ.le aF)
 (e1:aF.bw=(θ.add s.n g c).bw)(e2:aF.cap=(θ.add s.n g c).cap)(hs:∀k,16*(s.n+1+1)<=k->aF.str k=none/\aF.num k=none)(ho:zV P aF s.n w' g o):Rel P aF (s.new o).2 w0 w':=by
 have h1:=h.later hb;have g_:∀x,(s.new o).2.h.get x=if x=s.n then some o else s.h.get x:=λ x=>T.tt _ _ _ _
 have lj:∀x,aF.bw x=if x=s.n then some g else θ.bw x:=λ x=>by rw[e1];rfl
 have s5:∀x,aF.cap x=if x=s.n then c else θ.cap x:=λ x=>by rw[e2];rfl
 have h0:=h.below.size;refine⟨h1.below,λ x b hx=>?_,λ x y p q b h2 h3 h4 h5=>?_,λ x p b h2 h3=>?_,λ x hx=>?_,λ x hx=>?_,λ k hk=>hs k hk⟩
 ·rw[lj]at hx;split at hx
  ·cases hx;omega
  ·exact h1.bw x b hx
 ·rw[g_]at h2 h3;rw[lj]at h4 h5;by_cases hx:x=s.n<;>by_cases hy:y=s.n
  ·rw[hx,hy]
  ·rw[if_pos hx]at h4;rw[if_neg hy]at h5;cases h4;have:=h.bw y _ h5;omega
  ·rw[if_neg hx]at h4;rw[if_pos hy]at h5;cases h5;have:=h.bw x _ h4;omega
  ·rw[if_neg hx]at h2 h4;rw[if_neg hy]at h3 h5;exact h.inj x y _ _ b h2 h3 h4 h5
 ·rw[g_]at h2;rw[lj]at h3;by_cases hx:x=s.n
  ·rw[if_pos hx]at h2 h3;cases h2;cases h3;rw[hx];exact ho
  ·rw[if_neg hx]at h2 h3;exact(h1.obj x p b h2 h3).mono hle rfl
 ·have hx:s.n+1<=x:=hx;rw[g_,lj,s5,if_neg aa,if_neg aa,if_neg aa];exact h.new x aa
 ·have:=h.tu x hx;have hn:¬x=s.n:=aa;rw[lj,s5,if_neg hn,if_neg hn];exact⟨this.1,this.2.1,by show x<s.n+1;omega⟩
def oI (f:Nat->Option (List UInt8))(b:Nat)(R T B H:List UInt8)(k:Nat):Option (List UInt8):=if k=b then some R else if k=b+1 then some T else if k=b+2 then some B else if k=b+3 then some H else f k
def rL (f:Nat->Option Int)(b:Nat)(x y:Int)(k:Nat):Option Int:=if k=b then some x else if k=b+1 then some y else f k
theorem Pk.far {str afU:Nat->Option (List UInt8)}{num afV:Nat->Option Int}{b:Nat}(h:Pk str num b)(h1:∀k,k<b+16->afU k=str k)(h2:∀k,k<b+16->afV k=num k):Pk afU afV b:=by
 obtain⟨bs,raw,R,T,B,e1,e2,e3,e4,e5,e6,e7,e8,e9,x_⟩:=h;exact⟨bs,raw,R,T,B,e1,e2,e3,e4,(h1 _ aa).trans e5,(h1 _ aa).trans e6,(h1 _ aa).trans e7,(h1 _ aa).trans e8,(h2 _ aa).trans e9,(h2 _ aa).trans x_⟩
theorem Vd {str:Nat->Option (List UInt8)}{num:Nat->Option Int}(h:Em str num){n:Nat}{bs raw:Int}{R T B:ByteArray}(e1:fU 1 eP 1 bs raw R T=true)(e2:rf (ph one) 1 eP 1 bs raw R=T)(e3:BF 32 B.toList=R.toList)(e4:B.size=224)
 (hs:∀k,16*(n+1)<=k->str k=none/\num k=none):Em (oI str (16*(n+1)) R.toList T.toList B.toList (kT 1 eP 1 bs raw R T).toList) (rL num (16*(n+1)) bs raw):=by
 have o1:∀k,k<16*(n+1)->oI str (16*(n+1)) R.toList T.toList B.toList (kT 1 eP 1 bs raw R T).toList k=str k:=λ k hk=>by unfold oI;rw[if_neg aa,if_neg aa,if_neg aa,if_neg aa]
 have o2:∀k,k<16*(n+1)->rL num (16*(n+1)) bs raw k=num k:=λ k hk=>by unfold rL;rw[if_neg aa,if_neg aa]
 obtain⟨l1,l2,l3,l4,l5⟩:=h;refine⟨by rw[o1 1 aa];exact l1,by rw[o1 10 aa];exact l2,by rw[o1 11 aa];exact l3,by rw[o1 12 aa];exact l4,λ k hk h=>?_⟩;by_cases ao:k<16*(n+1)
 ·rw[o1 k ao,o2 k ao]at h;exact(l5 k hk h).far (λ j hj=>o1 j aa) (λ j hj=>o2 j aa)
 ·have bI:k/16*16=16*(n+1):=by
   by_cases h0:k<16*(n+1)+4
   ·omega
   ·exfalso;have:=hs k aa;unfold oI rL at h;rw[if_neg aa,if_neg aa,if_neg aa,if_neg aa,if_neg aa,if_neg aa,this.1,this.2]at h;rcases h with h|h<;>cases h
  rw[bI];refine⟨bs,raw,R,T,B,e1,e2,e3,e4,?_,?_,?_,?_,?_,?_⟩
  ·unfold oI;rw[if_pos rfl]
  ·unfold oI;rw[if_neg aa,if_pos rfl]
  ·unfold oI;rw[if_neg aa,if_neg aa,if_pos rfl]
  ·unfold oI;rw[if_neg aa,if_neg aa,if_neg aa,if_pos rfl]
  ·unfold rL;rw[if_pos rfl]
  ·unfold rL;rw[if_neg aa,if_pos rfl]
def kG:List Fl:=[(⟨#[97]⟩,⟨#[120]⟩)]
theorem Ve:iW kG=0:=ah
theorem atC:(dp kG).size<=60:=by
 unfold dp;rw[if_pos Ve,cV];unfold Go.Proofs.YtajokjbmpjjoiaaGreatDoor.uM;rw[ag];have h1:=U0 (ck kG);have h2:ck kG=kG:=rfl;rw[h2]at h1⊢;have h3:totF kG=2:=rfl;have h4:kG.length=1:=rfl;rw[h3,h4]at h1;have h5:(fQ (iE ((1:Nat):Int))).length=1:=rfl;rw[h4,h5];omega
theorem Lj {S:List UInt8}(h1:1<=S.length)(h2:S.length<=192):∃B:ByteArray,cM S=1/\j_ (iY one eP) (iZ one eP) S=[B]/\B.size=224/\(mJ [B]).toList=BF 32 B.toList:=by
 have hc:cM S=1:=by unfold cM;omega
 have hl:=OJ (iY one eP) (iZ one eP) S;rw[hc]at hl;obtain⟨B,hB⟩:=CA.1 hl;refine⟨B,hc,hB,Up _ _ S B (by rw[hB];simp),?_⟩;unfold mJ;rw[List.map_cons,List.map_nil,cn];unfold jx;unfold ug;rw[cn]
theorem atD {b:Nat}{bs raw:Int}{R T:ByteArray}(l1:θ.str 1=some eP.toList)(e5:θ.str b=some R.toList)(e6:θ.str (b+1)=some T.toList)(e9:θ.num b=some bs)(x_:θ.num (b+1)=some raw)(hR:R.size=32)(hT:T.size=32):
 cf θ (hd b)=some [.int .i64 1,.string eP,.int .i64 1,.int .i64 bs,.int .i64 raw,.string R,.string T]:=by
 have q1:=nC (θ:=θ) (n:=16) l1 BG;have q2:=nC (θ:=θ) (n:=32) e5 hR;have q3:=nC (θ:=θ) (n:=32) e6 hT;have q4:br θ (.at b)=some (.int .i64 bs):=by simp[br,e9]
 have q5:br θ (.at (b+1))=some (.int .i64 raw):=by simp[br,x_]
 have q6:br θ (.i .i64 1)=some (.int .i64 1):=rfl;simp only[hd,cf,q1,q2,q3,q4,q5,q6,Option.bind_some,Option.map_some]
theorem atE:Line 6 k3:=by
 intro ar s v s' h θ w0 w A hZ hR hA;unfold k3 at h;split at h
 ·rename_i x;split at h
  ·rename_i e hx
   cases h
   have hL:=En hZ;have pg:=nC (θ:=θ) (n:=16) hL.1 BG;rw[ew]at hA;obtain⟨U1,atF,g1⟩:=dq.1 hA;obtain⟨A1,g2,rfl⟩:=bp.1 g1;rw[ew]at g2;obtain⟨U2,afW,g3⟩:=dq.1 g2;obtain⟨A2,g4,rfl⟩:=bp.1 g3;obtain⟨U3,U4,atG,atH,rfl⟩:=Kz g4;obtain rfl:U1= .string one:=(cG atF).symm;rw[show cX θ (.o (.s [.a 1 16]))=_ from pg]at afW
   cases afW
   cases atG
   obtain⟨b,d,hb,rfl,hd,_⟩:=rY (show br θ (.sl x 0 1 (some 1))=some U4 from atH);obtain rfl:=hd 1 rfl;obtain⟨L,atI,hw⟩:=hR.obj _ _ _ hx hb;obtain rfl:L=[.string ⟨#[97]⟩,.string ⟨#[120]⟩]:=(cG atI).symm
   have bY:Rd w (some ⟨b,0,none⟩) (fl kG):=λ _=>⟨b,0,rfl,λ j u hj=>by
    rw[jd];refine(cell_of_row w b j _ e (0,0) hw).trans ?_;rw[<-hj,gW];rfl⟩
   have hlen:=atC
   refine(ae4 kG (some ⟨b,0,none⟩) 1 1 one eP 1 aA BG aA aA Ve aa rfl (ai _) aA (λ y hy=>by
    obtain rfl:=pA.1 hy;decide) w bY).mono ?_
   rintro e' w' ⟨us,lJ,cq,A3,c3,rfl,mR,as7,dL,aO,aw⟩;have hS:(aX us.flatten).length<=192:=aa;obtain⟨CC,vL,OU,OV,OW⟩:=afs lJ (dp kG).size (ai _) aa (oU (aX us.flatten)) (by rw[PR];unfold cM;omega) (aft us);have kv:1<=(aX us.flatten).length:=by have:=OP vL.pos vL.ne;rw[Du];omega
   have bq:fU 1 eP (cM (aX us.flatten):Nat) ((aX us.flatten).length:Nat) ((dp kG).size:Nat) (mJ (j_ (iY one eP) (iZ one eP) (aX us.flatten))) (wD one eP 1 (aX us.flatten) ((dp kG).size:Nat))=true:=
    afw aA aA BG (Tb _) (by unfold wD;exact aa3 _ _ _ _ _ _ _) kv aa (afv Ve) aa
   generalize awH:aX us.flatten=S at*;clear vL OU OV OW CC lJ cq;obtain⟨B,Vf,dC,OX,OY⟩:=Lj kv hS
   have qP:rf (ph one) 1 eP 1 (S.length:Nat) ((dp kG).size:Nat) (mJ [B])=wD one eP 1 S ((dp kG).size:Nat):=by
    unfold wD;rw[Vf,dC];rfl
   rw[Vf,dC]at bq aw;rw[Vf,dC];clear dL;generalize wD one eP 1 S ((dp kG).size:Nat)=T at*;obtain⟨R,atJ⟩:∃R,mJ [B]=R:=⟨_,rfl⟩;rw[atJ]at bq qP OY⊢;have OZ:fU 1 eP 1 (S.length:Nat) ((dp kG).size:Nat) R T=true:=bq;have hz:=fZ OZ;rcases aw.2 with⟨h0,_⟩|⟨g,cap,cur,h0,im,dU,cz,gH,iI,rl⟩
   ·cases h0
   ·cases h0
    have atK:=(kZ.1 dU).1
    have hle:θ.le {θ.add s.n g (some c3)with str:=oI θ.str (16*(s.n+1)) R.toList T.toList B.toList (kT 1 eP 1 (S.length:Nat) ((dp kG).size:Nat) R T).toList,num:=rL θ.num (16*(s.n+1)) (S.length:Nat) ((dp kG).size:Nat),law:=Em,ok:=Vd hL OZ qP OY.symm OX hR.sym}:=by
     have h1:=hR.yv g (some c3);refine⟨h1.1,h1.2,λ k y hk=>?_,λ k y hk=>?_,hZ.law.symm⟩
     ·have:k<16*(s.n+1):=Nat.lt_of_not_le λ hc=>by rw[(hR.sym k hc).1]at hk;cases hk
      show oI _ _ _ _ _ _ k=_;unfold oI;rw[if_neg aa,if_neg aa,if_neg aa,if_neg aa];exact hk
     ·have:k<16*(s.n+1):=Nat.lt_of_not_le λ hc=>by rw[(hR.sym k hc).2]at hk;cases hk
      show rL _ _ _ _ k=_;unfold rL;rw[if_neg aa,if_neg aa];exact hk
    have afX:=Vd hL OZ qP OY.symm OX hR.sym;generalize O0:({θ.add s.n g (some c3)with str:=oI θ.str (16*(s.n+1)) R.toList T.toList B.toList (kT 1 eP 1 (S.length:Nat) ((dp kG).size:Nat) R T).toList,num:=rL θ.num (16*(s.n+1)) (S.length:Nat) ((dp kG).size:Nat),law:=Em,ok:=Vd hL OZ qP OY.symm OX hR.sym}:Th)=aF at*;have es:aF.str=oI θ.str (16*(s.n+1)) R.toList T.toList B.toList (kT 1 eP 1 (S.length:Nat) ((dp kG).size:Nat) R T).toList:=by rw[<-O0]
    have en:aF.num=rL θ.num (16*(s.n+1)) (S.length:Nat) ((dp kG).size:Nat):=by rw[<-O0]
    have eb:aF.bw=(θ.add s.n g (some c3)).bw:=by rw[<-O0]
    have ec:aF.cap=(θ.add s.n g (some c3)).cap:=by rw[<-O0]
    have fc:aF.bw s.n=some g:=by rw[eb];exact Th.Ab
    have rB:aF.cap s.n=some c3:=by rw[ec];exact Th.CP
    rw[<-es,<-en]at afX;have cC:aF.str (16*(s.n+1)+2)=some B.toList:=by rw[es];unfold oI;rw[if_neg aa,if_neg aa,if_pos rfl]
    have UY:=atD (θ:=aF) (b:=16*(s.n+1)) (R:=R) (T:=T) (bs:=(S.length:Nat)) (raw:=((dp kG).size:Nat)) afX.1 (by rw[es];unfold oI;rw[if_pos rfl]) (by rw[es];unfold oI;rw[if_neg aa,if_pos rfl]) (by rw[en];unfold rL;rw[if_pos rfl]) (by rw[en];unfold rL;rw[if_neg aa,if_pos rfl]) hz.2.2.2.1 hz.2.2.2.2.1;refine⟨aF,_,rfl,hle,?_,hR.atB aO im atK hle eb ec (λ k hk=>?_) ⟨[.string B],cur,c3,1,?_,rB,ah,gH,iI,rl,dU⟩⟩
    ·refine EN ?_ rfl;have h8:cf aF [.sl s.n 0 1 none]=some [.slice (some ⟨g,0,none⟩) 1 c3]:=by simp[cf,br,fc,rB]
     show(cf aF (Ev.hd (16*(s.n+1))++[.sl s.n 0 1 none])).map _=_;rw[GI UY h8];rfl
    ·have:=hR.sym k aa;rw[es,en];refine⟨?_,?_⟩
     ·unfold oI;rw[if_neg aa,if_neg aa,if_neg aa,if_neg aa];exact this.1
     ·unfold rL;rw[if_neg aa,if_neg aa];exact this.2
    ·simp only[cf,nC cC OX];rfl
  ·cases h
 ·cases h
theorem atL:Qw Tryz.prog known Z0:=by
 intro f ar s v s' h;unfold known at h;by_cases e:f=12
 ·subst e;exact⟨⟨_,_,Tryz.func12,rfl⟩,atk ar s v s' h⟩
 rw[if_neg e]at h;clear e;by_cases e:f=125
 ·subst e;exact⟨⟨_,_,Tryz.func125,rfl⟩,atl ar s v s' h⟩
 rw[if_neg e]at h;clear e;by_cases e:f=6
 ·subst e;exact⟨⟨_,_,Tryz.func6,rfl⟩,atE ar s v s' h⟩
 rw[if_neg e]at h;clear e;by_cases e:f=243
 ·subst e;exact⟨⟨_,_,Tryz.func243,rfl⟩,atm ar s v s' h⟩
 rw[if_neg e]at h;clear e;by_cases e:f=78
 ·subst e;exact⟨⟨_,_,Tryz.func78,rfl⟩,atn ar s v s' h⟩
 rw[if_neg e]at h;clear e;by_cases e:f=35
 ·subst e;exact⟨⟨_,_,Tryz.func35,rfl⟩,ato ar s v s' h⟩
 rw[if_neg e]at h;clear e;by_cases e:f=38
 ·subst e;exact⟨⟨_,_,Tryz.func38,rfl⟩,atq ar s v s' h⟩
 rw[if_neg e]at h;clear e;by_cases e:f=62
 ·subst e;exact⟨⟨_,_,Tryz.func62,rfl⟩,atr ar s v s' h⟩
 rw[if_neg e]at h;clear e;by_cases e:f=87
 ·subst e;exact⟨⟨_,_,Tryz.func87,rfl⟩,att ar s v s' h⟩
 rw[if_neg e]at h;clear e;by_cases e:f=83
 ·subst e;exact⟨⟨_,_,Tryz.func83,rfl⟩,atv ar s v s' h⟩
 rw[if_neg e]at h;clear e;by_cases e:f=59
 ·subst e;exact⟨⟨_,_,Tryz.func59,rfl⟩,atx ar s v s' h⟩
 rw[if_neg e]at h;clear e;by_cases e:f=239
 ·subst e;exact⟨⟨_,_,Tryz.func239,rfl⟩,atA ar s v s' h⟩
 rw[if_neg e]at h;clear e
 cases h
end Ev
end
section
namespace Ev
open Go.RowKit Go.Lib
theorem atM:(Tryz.prog.funcs.toList.all λ fn=>!fn.body.isSome||!(fn.name== "runtime.NumGoroutine"))=true:=ah
theorem plain:Plain Tryz.prog:=λ g fn h hb=>by
 have:=nF.1 atM fn (du (by rw[rM];exact h));rw[hb]at this;simpa using this
theorem atN (w:World):Rel Tryz.prog Z0 {h:=.e,n:=0} ⟨w,λ _=>False⟩ w:=
 ⟨aB _ _,λ _ _ h=>(by cases h),λ _ _ _ _ _ h=>(by cases h),λ _ _ _ h=>(by cases h),λ _ _=>⟨rfl,rfl,rfl⟩,λ _ h=>False.elim h,λ k hk=>⟨by
  have hk:16<=k:=hk
  show Ky k=none
  unfold Ky
  rw[if_neg aa,if_neg aa,if_neg aa,if_neg aa],rfl⟩⟩
theorem atO (w:World):Calls Tryz.prog 8 #[] w (OT w):=by
 have h:=ath;rw[aie]at h;refine(ajX atL plain ah 2000 _ h).2 Z0 ⟨w,λ _=>False⟩ w [] (OT w) (.refl _) (atN w) rfl λ v s' aF V w' h1 h2 h3 h4=>?_;unfold afS at h1;split at h1
 ·subst h1
  cases h3
  exact⟨rfl,h4.below⟩
 ·cases h1
end Ev
