import Derived.Test.YtajokjbmpjjoiaaGreatDoorP18
import Derived.DeepKeys5
import Derived.Maps.OwnSet
set_option maxRecDepth 20000
set_option maxHeartbeats 0
set_option linter.unusedSimpArgs false
set_option linter.unusedVariables false
namespace Go.Proofs.YtajokjbmpjjoiaaGreatDoor
section
open Go.RowKit Go.Maps
open Go.ChangeMaps (setBlock heap_setBlock_same heap_setBlock_other modify_eq_set)
def MapTo (w:World)(m:Nat)(n:Nat):Prop:=∃es clock,w.heap[m]? =some (.map es clock)/\∀x∈es.toList,(∃l,keyOf Tryz.prog 413 x.key=some l)/\∃v:Nat,x.val= .int .i64 (v:Nat)/\1<=v/\v<=n
theorem lz_law:Keyed Tryz.prog 413:=Keyed.of_law (deep_law_gate ah (fZ ah) (fZ ah) ah ah)
theorem wf_byte (x:Nat)(h:x<256):(Lit.int .u8 (x:Nat)).wf=true:=by
 have h1:IntKind.u8.min=0:=aA;have h2:IntKind.u8.max=255:=aA;simp[Lit.wf,h1,h2];omega
theorem lz_key (x y z:Nat)(hx:x<256)(hy:y<256)(hz:z<256):∃l,keyOf Tryz.prog 413 (.agg #[.int .u8 (x:Nat),.int .u8 (y:Nat),.int .u8 (z:Nat)])=some l:=by
 have ap9:Tryz.prog.keyType 413=true:=ah;have h3:Tryz.prog.cellsOf 413=3:=ah;have h1:Tryz.prog.cellsOf 5=1:=ah;have oZ:(Lit.int .u8 (x:Nat)).wf=true:=wf_byte x hx;have aqa:(Lit.int .u8 (y:Nat)).wf=true:=wf_byte y hy;have K5:(Lit.int .u8 (z:Nat)).wf=true:=wf_byte z hz;obtain⟨m,hm⟩:∃m,Tryz.prog.types.size=m+1:=Nat.exists_eq_succ_of_ne_zero (Nat.ne_of_gt (fZ ah));unfold keyOf;rw[Tryz.underlying413];have hr:List.range 3=[0,1,2]:=rfl;simp[ap9,Value.formed,Value.cells,h3,h1,hm,Program.keyLits,Tryz.underlying413,Tryz.underlying5,hr,oZ,aqa,K5]
theorem MapTo.same {w w':World}{m n:Nat}(h:MapTo w m n)(hb:w'.heap[m]? =w.heap[m]?):MapTo w' m n:=by
 obtain⟨es,c,h1,h2⟩:=h;exact⟨es,c,hb.trans h1,h2⟩
theorem MapTo.mono {w:World}{m n n':Nat}(h:MapTo w m n)(hn:n<=n'):MapTo w m n':=by
 obtain⟨es,c,h1,h2⟩:=h;refine⟨es,c,h1,λ x hx=>?_⟩;obtain⟨a,v,b1,b2,b3⟩:=h2 x hx;exact⟨a,v,b1,b2,aa⟩
theorem MapTo.lt {w:World}{m n:Nat}(h:MapTo w m n):m<w.heap.size:=by
 obtain⟨es,c,h1,_⟩:=h;exact(kZ.1 h1).1
theorem MapTo.look {w:World}{m n:Nat}(h:MapTo w m n){key:Value}{kl:Lit}(xV:keyOf Tryz.prog 413 key=some kl):
 ∃v:Nat,v<=n/\(Instr.lookup 339 (.map (some m)) key false).run Tryz.prog w= .ok (.int .i64 (v:Nat)) w:=by
 obtain⟨es,c,hb,h2⟩:=h;have hz:(zeroValue 3).run Tryz.prog w= .ok (.int .i64 0) w:=ah;rcases lz_law.find w xV es.toList (λ x hx=>(h2 x hx).1)with⟨h1,_⟩|⟨j,e0,h1,h3,_⟩
 ·exact⟨0,gV _,by simp[Instr.lookup,rV Tryz.underlying339,MapKept.run_getObj_map hb,lz_law.check w _ xV,h1,hz,Result.andThen]⟩
 ·obtain⟨_,v,e1,_,e3⟩:=h2 e0 (du h3);exact⟨v,e3,by simp[Instr.lookup,rV Tryz.underlying339,MapKept.run_getObj_map hb,lz_law.check w _ xV,h1,Result.andThen,e1]⟩
theorem MapTo.put {w:World}{m n:Nat}(h:MapTo w m n){key:Value}{kl:Lit}(xV:keyOf Tryz.prog 413 key=some kl)(v:Nat)(hv:1<=v)(avS:n<=v):
 ∃o,(Instr.mapUpdate 339 (.map (some m)) key (.int .i64 (v:Nat))).run Tryz.prog w= .ok () (setBlock w m o)/\MapTo (setBlock w m o) m v:=by
 obtain⟨es,c,hb,h2⟩:=h;rcases lz_law.find w xV es.toList (λ x hx=>(h2 x hx).1)with⟨h1,_⟩|⟨j,e0,h1,h3,h4⟩
 ·refine⟨.map (es.push ⟨key,.int .i64 (v:Nat),c⟩) (c+1),?_,es.push ⟨key,.int .i64 (v:Nat),c⟩,c+1,heap_setBlock_same hb _,?_⟩
  ·simp[Instr.mapUpdate,rV Tryz.underlying339,MapKept.run_getObj_map hb,lz_law.check w false xV,h1,MapKept.run_setObj_map _ hb,Result.andThen,setBlock]
  ·intro x hx;simp only[Array.toList_push,fE,pA]at hx;rcases hx with hx|rfl
   ·obtain⟨a,v',b1,b2,b3⟩:=h2 x hx;exact⟨a,v',b1,b2,aa⟩
   ·exact⟨⟨kl,xV⟩,v,rfl,hv,ai _⟩
 ·have hj:es[j]? =some e0:=by simpa using h3
  have aqb:(es.modify j (λ e'=>{e' with key:=key,val:=.int .i64 (v:Nat)})).toList=es.toList.set j {e0 with key:=key,val:=.int .i64 (v:Nat)}:=by rw[Array.toList_modify,modify_eq_set _ _ _ _ h3]
  refine⟨.map (es.modify j (λ e'=>{e' with key:=key,val:=.int .i64 (v:Nat)})) c,?_,_,c,heap_setBlock_same hb _,?_⟩
  ·simp[Instr.mapUpdate,rV Tryz.underlying339,MapKept.run_getObj_map hb,lz_law.check w false xV,h1,hj,h4,lz_law.stays w xV,MapKept.run_setObj_map _ hb,Result.andThen,setBlock]
  ·intro x hx;rw[aqb]at hx;rcases List.mem_or_eq_of_mem_set hx with hx|rfl
   ·obtain⟨a,v',b1,b2,b3⟩:=h2 x hx;exact⟨a,v',b1,b2,aa⟩
   ·exact⟨⟨kl,xV⟩,v,rfl,hv,ai _⟩
structure FinAt (w:World)(f g m:Nat)(s:ByteArray)(n:Nat):Prop where
 bk:Bk w f 341 #[.string s,.map (some m),.slice (some ⟨g,0,none⟩) s.size s.size]
 row:∃B:List Nat,dF w g B/\B.length=s.size/\∀p,B.getD p 0<=p
 map:MapTo w m n
 ne:m≠f/\m≠g/\g≠f
theorem FinAt.same {w w':World}{f g m n:Nat}{s:ByteArray}(h:FinAt w f g m s n)(hb:Below w.heap.size w w'):FinAt w' f g m s n:=by
 obtain⟨B,h1,h2⟩:=h.row;exact⟨h.bk.aL hb,⟨B,h1.aL hb,h2⟩,h.map.same (hb.block m h.map.lt),h.ne⟩
theorem FinAt.drew {w:World}{f g m n:Nat}{s:ByteArray}(h:FinAt w f g m s n):FinAt w.drew f g m s n:=⟨h.bk,h.row,h.map,h.ne⟩
theorem FinAt.drewN {w:World}{f g m n:Nat}{s:ByteArray}(h:FinAt w f g m s n)(k:Nat):FinAt (w.drewN k) f g m s n:=⟨h.bk,h.row,h.map,h.ne⟩
theorem info_3u8:(Tryz.prog.info? 413).map (·.size)=some 3:=ah
def KyEnd (w:World)(e:Ending)(w':World):Prop:=∃x y z:Nat,x<256/\y<256/\z<256/\e= .returned (.agg #[.int .u8 (x:Nat),.int .u8 (y:Nat),.int .u8 (z:Nat)])/\Below w.heap.size w w'
theorem lzkey_any (f g m n at_:Nat)(s:ByteArray)(hs:s.size<=1000000000)(h:at_+3<=s.size)(w:World)(hF:FinAt w f g m s n):Calls Tryz.prog 303 #[.pointer (some ⟨f,0,none⟩),.int .i64 (at_:Nat)] w (KyEnd w):=by
 have cq:Below w.heap.size w (w.alloc (.cells #[.int .u8 0,.int .u8 0,.int .u8 0] 413)):=(aB _ w).alloc (ai _) _;have c0:=(hF.bk.aL cq).cell_ 0 _ rfl;have d0:=Bk.new w 413 #[.int .u8 0,.int .u8 0,.int .u8 0];have HF:=ae hF;have HB:=ae cq;have q0:(at_:Int)<(s.size:Int):=aa;have q1:(at_:Int)+1<(s.size:Int):=aa;have q2:(at_:Int)+2<(s.size:Int):=aa;have p1:0<=(at_:Int)+1:=aa;have p2:0<=(at_:Int)+2:=aa;have r1:IntKind.i64.wrap ((at_:Int)+1)=(at_:Int)+1:=by rw[aE];omega
 have r2:IntKind.i64.wrap ((at_:Int)+2)=(at_:Int)+2:=by rw[aE];omega
 clear hF cq h;go_enter Tryz.func303,Tryz.ntmps303;go_upto_region 1 with fail;have Iz:=c0;clear c0;obtain⟨g0,Bq⟩:∃x,w.heap.size=x:=⟨_,rfl⟩;have HG:=ae Bq;rw[Bq]at d0⊢;have z0:=d0.cell_ 0 _ rfl;have z1:=d0.cell_ 1 _ rfl;have z2:=d0.cell_ 2 _ rfl;have f0:=d0.frozen 0;have f1:=d0.frozen 1;have f2:=d0.frozen 2;have HD:=ae d0;clear d0 Bq;generalize w.alloc (.cells #[.int .u8 0,.int .u8 0,.int .u8 0] 413)=w1 at*;have c0:w1.cell? ⟨f,0,none⟩=some (.string s):=Iz;clear Iz;go_region;go_wp2_with fail;have hk:=((HD.out.drew.aP 0 (.int .u8 (s[at_].toNat:Nat))).aP 1 (.int .u8 (s[at_+1].toNat:Nat))).aP 2 (.int .u8 (s[at_+2].toNat:Nat));refine eX (EF Tryz.results303 _ _ g0 413 _ (0,0) _ rfl hk Tryz.underlying413 rfl info_3u8) rfl ⟨_,_,_,gT _,gT _,gT _,rfl,?_⟩;have hb:=HB.out;rw[HG.out]at hb⊢;exact((hb.drew.setCell (p:=⟨g0,0,none⟩) (ai _) _).setCell (p:=⟨g0,1,none⟩) (ai _) _).setCell (p:=⟨g0,2,none⟩) (ai _) _
theorem lzsame_any (f g m n a b:Nat)(s:ByteArray)(hs:s.size<=1000000000)(pH:a<b)(hb:b<=s.size)(w:World)(hF:FinAt w f g m s n):Calls Tryz.prog 304 #[.pointer (some ⟨f,0,none⟩),.int .i64 (a:Nat),.int .i64 (b:Nat)] w
 λ e w'=>∃k:Nat,e= .returned (.int .i64 (k:Nat))/\k<=258/\b+k<=s.size/\(∀i,i<k->s[a+i]? =s[b+i]?)/\Below w.heap.size w w':=by
 have c0:=hF.bk.cell_ 0 _ rfl;clear hF;go_enter Tryz.func304,Tryz.ntmps304;go_wp2_with fail;have HC:=ae (af c0 (cQ w _ c0));clear c0;go_loopw [7] (λ v7 wr=>∃k:Nat,v7= .int .i64 (k:Nat)/\k<=258/\b+k<=s.size/\Hid (∀i,i<k->s[a+i]? =s[b+i]?)/\Hid (Below w.heap.size w wr)) (λ v7 _=>258-vnat v7)
 case atStart=>exact⟨0,rfl,aa,aa,ae (λ i hi=>by omega),ae (aB _ _)⟩
 case round=>
  obtain⟨k,rfl,hk,dC,HS,HB⟩:=hrel;have c0:=(HB.out.cell HC.out.2).trans HC.out.1;have c0:wr.cell? ⟨f,0,none⟩=some (.string s):=c0;have bG:Hid (∀q,Below w.heap.size w (wr.drewN q)):=ae λ q=>below_drewN HB.out q;by_cases h1:(k:Int)<258
  ·by_cases h2:(b:Int)+(k:Int)<(s.size:Int)
   ·have h3:(a:Int)+(k:Int)<(s.size:Int):=aa;have ea:IntKind.i64.wrap ((a:Int)+(k:Int))=(a:Int)+(k:Int):=by rw[aE];omega
    have eb:IntKind.i64.wrap ((b:Int)+(k:Int))=(b:Int)+(k:Int):=by rw[aE];omega
    have pa:0<=(a:Int)+(k:Int):=aa;have pb:0<=(b:Int)+(k:Int):=aa;have l1:a+k<s.size:=aa;have l2:b+k<s.size:=aa;by_cases he:s[a+k]'l1=s[b+k]'l2
    ·have mZ:((((s[a+k]'l1).toNat:Nat):Int)==(((s[b+k]'l2).toNat:Nat):Int))=true:=by rw[he];simp
     have iM:=ae (show∀i,i<k+1->s[a+i]? =s[b+i]? from λ i hi=>by
      rcases Nat.lt_succ_iff_lt_or_eq.1 hi with h|rfl
      ·exact HS.out i h
      ·rw[getElem?_pos s (a+i) l1,getElem?_pos s (b+i) l2,he])
     clear he HS;go_wp2_with fail;go_quiet (fail);go_wp2_with fail;go_roundw
     case rel=>exact⟨k+1,by first|rfl|go_num,aa,aa,iM,ae (bG.out _)⟩
     case measure=>simp[vnat];omega
    ·have mZ:((((s[a+k]'l1).toNat:Nat):Int)==(((s[b+k]'l2).toNat:Nat):Int))=false:=by
      simp;exact λ h=>he (yg.1 aa)
     clear he;go_wp2_with fail;go_quiet (fail);go_wp2_with fail;go_ret;exact⟨k,rfl,aa,aa,HS.out,bG.out _⟩
   ·have eb:IntKind.i64.wrap ((b:Int)+(k:Int))=(b:Int)+(k:Int):=by rw[aE];omega
    have hd:decide ((b:Int)+(k:Int)<(s.size:Int))=false:=ct h2;go_wp2_with fail;go_quiet (fail);go_wp2_with fail;go_ret;exact⟨k,rfl,aa,aa,HS.out,bG.out _⟩
  ·have hd:decide ((k:Int)<258)=false:=ct h1;have fj:decide (k<258)=false:=by simp;omega
   go_wp2_with fail;go_quiet (fail);go_wp2_with fail;go_ret;exact⟨k,rfl,aa,aa,HS.out,bG.out _⟩
theorem set_far {w:World}{b k:Nat}(o:Obj)(h:k≠b):(setBlock w b o).heap[k]? =w.heap[k]? :=Gx (λ e=>h e.symm)
theorem KX.set_block {w:World}{b:Nat}(o:Obj):KX (λ k=>k=b) w (setBlock w b o):=⟨rfl,rfl,rfl,by simp[setBlock],λ k _ h=>set_far o h⟩
def PutK (f g m:Nat):Nat->Prop:=λ k=>k=g∨k=m
theorem lzput_any (f g m at_:Nat)(s:ByteArray)(hs:s.size<=1000000000)(qq:at_<s.size)(w:World)(hF:FinAt w f g m s at_):Calls Tryz.prog 233 #[.pointer (some ⟨f,0,none⟩),.int .i64 (at_:Nat)] w
 λ e w'=>e= .returned (.tuple #[])/\FinAt w' f g m s (at_+1)/\KX (PutK f g m) w w':=by
 have c0:=hF.bk.cell_ 0 _ rfl;have c0:w.cell? ⟨f,0,none⟩=some (.string s):=c0;have HF:=ae hF;have r1:IntKind.i64.wrap ((at_:Int)+3)=(at_:Int)+3:=by rw[aE];omega
 clear hF;by_cases h3:(at_:Int)+3<=(s.size:Int)
 ·have HK:=ae (λ w' h=>lzkey_any f g m at_ at_ s hs aa w' h);go_enter Tryz.func233,Tryz.ntmps233;go_upto_region 2 with(go_at_call 303;go_must (refine(HK.out _ HF.out).mono ?_);rintro e w1 ⟨x,y,z,hx,hy,hz,rfl,au⟩);have bG:=ae (au.alloc au.size (.cells #[.int .u8 (x:Nat),.int .u8 (y:Nat),.int .u8 (z:Nat)] 413));have bF:=Bk.new w1 413 #[.int .u8 (x:Nat),.int .u8 (y:Nat),.int .u8 (z:Nat)];obtain⟨q,hq⟩:∃q,w1.heap.size=q:=⟨_,rfl⟩;rw[hq]at bF⊢;have HQ:=ae (show w.heap.size<=q by rw[<-hq];exact au.size);clear hq au HK c0;generalize w1.alloc (.cells #[.int .u8 (x:Nat),.int .u8 (y:Nat),.int .u8 (z:Nat)] 413)=w2 at*;have mD:=ae (HF.out.same bG.out);obtain⟨kl,mV⟩:=lz_key x y z hx hy hz;have ub:=ae mV;obtain⟨v,hv,FT⟩:=mD.out.drew.map.look mV;have z0:=bF.cell_ 0 _ rfl;have z1:=bF.cell_ 1 _ rfl;have z2:=bF.cell_ 2 _ rfl;have c1:=mD.out.bk.cell_ 1 _ rfl;have c2:=mD.out.bk.cell_ 2 _ rfl;obtain⟨B,hB,rF,JX⟩:=mD.out.row;have cb:=hB.cell at_ (by rw[rF];exact qq);have fb:=hB.frozen at_;have HB:=ae (af hB (af rF JX));have dm:=ae bF;have aqc:g≠q:=by have:=(HF.out.row);obtain⟨_,h,_⟩:=this;obtain⟨cs,h,_⟩:=h;have:=h.lt;have:=HQ.out;omega
  clear hB rF JX bF mV;go_region;go_upto_region 3 with fail;have aS:=mD.out.ne
  have bZ:FinAt ((w2.setCell ⟨g,at_,none⟩ (.int .i64 (v:Nat))).drew) f g m s at_:=by
   show FinAt (w2.drew.setCell ⟨g,at_,none⟩ (.int .i64 (v:Nat))) f g m s at_;refine⟨mD.out.bk.drew.far (by simp;exact λ e=>aS.2.2 e.symm) _,⟨_,(show dF w2.drew g B from HB.out.1).aP at_ v,by rw[iP];exact HB.out.2.1,λ p=>?_⟩,mD.out.drew.map.same (Eo _ _ _ m (by simp;exact aS.2.1)),aS⟩;rw[a_,zO];split
   ·next e=>subst e;split<;>simp<;>omega
   ·rw[<-a_];exact HB.out.2.2 p
  have JY:KX (PutK f g m) w2 ((w2.setCell ⟨g,at_,none⟩ (.int .i64 (v:Nat))).drew):=(KX.pR w2 g at_ _ (X:=PutK f g m) (.inl rfl)).trans (KX.drew _) λ _ _ h=>h;have bF:Bk ((w2.setCell ⟨g,at_,none⟩ (.int .i64 (v:Nat))).drew) q 413 #[.int .u8 (x:Nat),.int .u8 (y:Nat),.int .u8 (z:Nat)]:=(dm.out.far (by simp;exact λ e=>aqc e.symm) _:Bk (w2.setCell ⟨g,at_,none⟩ (.int .i64 (v:Nat))) q 413 #[.int .u8 (x:Nat),.int .u8 (y:Nat),.int .u8 (z:Nat)]).drew;have BA:=ae (af bZ ((KX.pQ bG.out).trans JY λ _ _ h=>h));have cU:=ae bF;clear bZ JY bF aS z0 z1 z2 c1 c2 cb fb FT HB dm mD;generalize(w2.setCell ⟨g,at_,none⟩ (.int .i64 (v:Nat))).drew=w3 at*;have c1:w3.cell? ⟨f,1,none⟩=some (.map (some m)):=BA.out.1.bk.cell_ 1 _ rfl;have z0:w3.cell? ⟨q,0,none⟩=some (.int .u8 (x:Nat)):=cU.out.cell_ 0 _ rfl;have z1:w3.cell? ⟨q,1,none⟩=some (.int .u8 (y:Nat)):=cU.out.cell_ 1 _ rfl;have z2:w3.cell? ⟨q,2,none⟩=some (.int .u8 (z:Nat)):=cU.out.cell_ 2 _ rfl;obtain⟨o,tA,hM⟩:=BA.out.1.drew.map.put ub.out (at_+1) aa aa;have aqd:(Instr.mapUpdate 339 (.map (some m)) (.agg #[.int .u8 (x:Nat),.int .u8 (y:Nat),.int .u8 (z:Nat)]) (.int .i64 ((at_:Int)+1))).run Tryz.prog w3.drew= .ok () (setBlock w3.drew m o):=tA;have HM:=ae hM;have r2:IntKind.i64.wrap ((at_:Int)+1)=(at_:Int)+1:=by rw[aE];omega
  clear tA hM;obtain⟨w4,pW⟩:∃x,setBlock w3.drew m o=x:=⟨_,rfl⟩;rw[pW]at aqd;have kV:=ae pW;clear pW;go_region;go_wp2_with fail;go_end0;have aS:=BA.out.1.ne;have hM:=HM.out;obtain⟨B,hB,cC⟩:=BA.out.1.row;rw[<-kV.out];refine⟨rfl,⟨(set_far o (λ e=>aS.1 e.symm)).trans BA.out.1.bk,⟨B,?_,cC⟩,hM,aS⟩,BA.out.2.trans ((KX.drew w3).trans (KX.set_block o) λ _ _ h=>h) λ k _ e=>.inr e⟩;obtain⟨cs,h1,h2⟩:=hB;exact⟨cs,(set_far o (λ e=>aS.2.1 e.symm)).trans h1,h2⟩
 ·go_enter Tryz.func233,Tryz.ntmps233;go_wp2_with fail;go_end0;exact⟨rfl,⟨HF.out.bk,HF.out.row,HF.out.map.mono aa,HF.out.ne⟩,KX.refl⟩
def FoundAt (s:ByteArray)(at_ n d:Nat):Prop:=(n=0/\d=0)∨(n<=258/\at_+n<=s.size/\1<=d/\d<=4096/\d<=at_/\∀i,i<n->s[at_-d+i]? =s[at_+i]?)
theorem lzfind_any (f g m at_:Nat)(s:ByteArray)(hs:s.size<=1000000000)(qq:at_<s.size)(w:World)(hF:FinAt w f g m s at_):Calls Tryz.prog 232 #[.pointer (some ⟨f,0,none⟩),.int .i64 (at_:Nat)] w
 λ e w'=>∃n d:Nat,e= .returned (.tuple #[.int .i64 (n:Nat),.int .i64 (d:Nat)])/\FoundAt s at_ n d/\Below w.heap.size w w':=by
 have c0:=hF.bk.cell_ 0 _ rfl;have c0:w.cell? ⟨f,0,none⟩=some (.string s):=c0;have c1:=hF.bk.cell_ 1 _ rfl;have c1:w.cell? ⟨f,1,none⟩=some (.map (some m)):=c1;have HF:=ae hF;have r1:IntKind.i64.wrap ((at_:Int)+3)=(at_:Int)+3:=by rw[aE];omega
 clear hF;by_cases h3:(s.size:Int)<(at_:Int)+3
 ·go_enter Tryz.func232,Tryz.ntmps232;go_wp2_with fail;go_ret2;exact⟨0,0,rfl,.inl ⟨rfl,rfl⟩,aB _ _⟩
 ·have HK:=ae (λ w' h=>lzkey_any f g m at_ at_ s hs aa w' h);go_enter Tryz.func232,Tryz.ntmps232;have ub:=ae lz_key;have Gj:=ae (show∀w',Below w.drew.heap.size w.drew w'->w'.cell? ⟨f,1,none⟩=some (.map (some m))from λ w' hb=>(hb.cell (p:=⟨f,1,none⟩) (cQ w _ c1)).trans c1);go_upto_region 4 with fail;go_cut [8]from 18 to 26 (λ v8 wx=>∃v:Nat,v8= .int .i64 (v:Nat)/\v<=at_/\Hid (Below w.heap.size w wx))
  case first=>
   go_wp2_with fail;go_region_with (go_at_call 303;go_must (refine(HK.out _ HF.out.drew).mono ?_);rintro e w1 ⟨x,y,z,hx,hy,hz,rfl,au⟩;obtain⟨kl,mV⟩:=ub.out x y z hx hy hz;obtain⟨v,hv,FT⟩:=(HF.out.drew.same au).map.look mV;have avT:=Gj.out w1 au;have cD:=ae au;clear c0 c1 HK mV ub au)
   all_goals
    go_wp2_with fail
    go_meet
    exact⟨v,rfl,hv,ae ((aB _ w).drew.trans cD.out)⟩
  case rest=>
   obtain⟨v,rfl,hv,Tg⟩:=hcut;have adp:=ae (HF.out.same Tg.out);clear c0 c1 HK ub Gj HF;go_wp2_with fail;go_loopw [6,7,8] (λ v6 v7 v8 wr=>∃n d p:Nat,v6= .int .i64 (n:Nat)/\v7= .int .i64 (d:Nat)/\v8= .int .i64 (p:Nat)/\p<=at_/\n<=258/\Hid (FoundAt s at_ n d)/\Hid (Below w.heap.size w wr)/\Hid (FinAt wr f g m s at_)) (λ _ _ v8 _=>vnat v8)
   case atStart=>exact⟨0,0,v,rfl,rfl,rfl,hv,aa,ae (.inl ⟨rfl,rfl⟩),Tg,adp⟩
   case round=>
    clear adp Tg hv;obtain⟨n,d,p,rfl,rfl,rfl,hp,hn,zs,HB,Ti⟩:=hrel;by_cases GL:(0:Int)<(p:Int)
    ·by_cases avU:(at_:Int)-((p:Int)-1)<=4096
     ·have j5:=ae (lzsame_any f g m at_ (p-1) at_ s hs aa aa wr Ti.out);obtain⟨p1,rfl⟩:∃p1,p=p1+1:=⟨p-1,aa⟩;have xG:((p1+1:Nat):Int)-1=(p1:Int):=aa;have avV:(at_:Int)-(p1:Int)<=4096:=aa;have aqe:p1<s.size:=aa;rw[qh]at j5;go_wp2_with fail;(with_reducible refine j5.out.mono ?_);rintro e w1 ⟨k,rfl,hk,yR,adq,au⟩;have N6:=ae (Ti.out.same au);have gq:=ae (HB.out.trans (au.mono HB.out.size));have R_:=ae (show FoundAt s at_ k (at_-p1)from .inr ⟨hk,yR,aa,aa,aa,λ i hi=>by rw[show at_-(at_-p1)+i=p1+i by omega];exact adq i hi⟩);obtain⟨B,hB,rF,JX⟩:=N6.out.row;have c2:w1.cell? ⟨f,2,none⟩=some (.slice (some ⟨g,0,none⟩) s.size s.size):=N6.out.bk.cell_ 2 _ rfl;have cb:=hB.cell p1 (by rw[rF];exact aqe);have Jd:=JX p1;obtain⟨y,hy⟩:∃y,B.getD p1 0=y:=⟨_,rfl⟩;rw[hy]at cb Jd;have oX:(p1:Int)<(s.size:Int):=aa;have AL:(at_:Int)-(p1:Int)=((at_-p1:Nat):Int):=aa;clear hB rF JX hy adq au j5 HB Ti;by_cases IA:(n:Int)<(k:Int)
      ·clear zs;go_wp2_with fail;go_roundw
       case rel=>exact⟨k,at_-p1,y,rfl,by rw[<-AL],rfl,aa,hk,R_,gq,N6⟩
       case measure=>simp[vnat];omega
      ·go_wp2_with fail;go_roundw
       case rel=>exact⟨n,d,y,rfl,rfl,rfl,aa,hn,zs,gq,N6⟩
       case measure=>simp[vnat];omega
     ·have eC:IntKind.i64.wrap ((p:Int)-1)=(p:Int)-1:=by rw[aE];omega
      go_wp2_with fail;go_ret2;exact⟨n,d,rfl,zs.out,HB.out⟩
    ·go_wp2_with fail;go_ret2;exact⟨n,d,rfl,zs.out,HB.out⟩
theorem txN_at (s:ByteArray)(i:Nat)(h:i<s.size):(c_ s).getD i 0=s[i].toNat:=by
 unfold c_;rw[a_,eH,aZ (by rw[aD];exact h),getElem_toList s i h];rfl
theorem txN_same (s:ByteArray)(i j:Nat)(h:s[i]? =s[j]?):(c_ s).getD i 0=(c_ s).getD j 0:=by
 rcases gx i s.size with h1|h1
 ·rcases gx j s.size with h2|h2
  ·rw[txN_at s i h1,txN_at s j h2];rw[getElem?_pos s i h1,getElem?_pos s j h2]at h;rw[cG h]
  ·rw[getElem?_pos s i h1,getElem?_neg s j aa]at h;cases h
 ·rcases gx j s.size with h2|h2
  ·rw[getElem?_neg s i aa,getElem?_pos s j h2]at h;cases h
  ·rw[a_,a_,s7 (by rw[o_];exact h1),s7 (by rw[o_];exact h2)]
theorem el_tok:El Tryz.prog 259 343 3 24:=El.kg (z:=.agg #[.int .i64 0,.int .i64 0,.int .i64 0]) Tryz.underlying259 ah aA (by rfl)
structure PsI (s:ByteArray)(w0:World)(f g m:Nat)(at_:Nat)(l:List Tk)(v:Value)(wr:World):Prop where
 tk:gL (c_ s) l at_
 fin:FinAt wr f g m s at_
 own:wr.ownsRow w0.heap.size 343 3 v l.length (fm l)
 old:f<w0.heap.size/\g<w0.heap.size/\m<w0.heap.size
 bl:KX (PutK f g m) w0 wr
theorem PsI.below {s:ByteArray}{w0 wr w':World}{f g m at_:Nat}{l:List Tk}{v:Value}(h:PsI s w0 f g m at_ l v wr)(hb:Below wr.heap.size wr w'):PsI s w0 f g m at_ l v w':=
 ⟨h.tk,h.fin.same hb,kL h.own hb,h.old,h.bl.trans (KX.pQ hb) λ _ _ h=>h⟩
theorem FinAt.eqs {w w':World}{f g m n:Nat}{s:ByteArray}(h:FinAt w f g m s n)(h1:w'.heap[f]? =w.heap[f]?)(h2:w'.heap[g]? =w.heap[g]?)(h3:w'.heap[m]? =w.heap[m]?):FinAt w' f g m s n:=by
 obtain⟨B,⟨cs,hB,hc⟩,cC⟩:=h.row;exact⟨h1.trans h.bk,⟨B,⟨cs,h2.trans hB,hc⟩,cC⟩,h.map.same h3,h.ne⟩
theorem KX.low {X:Nat->Prop}{w0 w w':World}(h:KX X w0 w)(hb:Below w0.heap.size w w'):KX X w0 w':=
 ⟨hb.os.trans h.os,hb.tape.trans h.tape,hb.output.trans h.output,b_ h.size hb.size,λ k hk hn=>(hb.block k hk).trans (h.block k hk hn)⟩
theorem PsI.far {s:ByteArray}{w0 wr:World}{f g m at_ q:Nat}{l:List Tk}{v:Value}(h:PsI s w0 f g m at_ l v wr)(hq:w0.heap.size<=q)(ho:∀k,v.ownBlock=some k->k≠q)(c:Nat)(u:Value):PsI s w0 f g m at_ l v (wr.setCell ⟨q,c,none⟩ u):=by
 have hk:KX (λ k=>k=q) wr (wr.setCell ⟨q,c,none⟩ u):=KX.pR wr q c u rfl;have avW:=h.old;have hl:=h.bl.size;exact⟨h.tk,h.fin.eqs (hk.block f aa aa) (hk.block g aa aa) (hk.block m aa aa),FK h.own hk ho,h.old,h.bl.trans hk λ k hk e=>by omega⟩
theorem toks_len {s:List Nat}{l:List Tk}{n:Nat}(h:gL s l n):l.length<=n:=by
 induction h with
 |nil=>exact ai _
 |lit h hn hb ih=>rw[ag];simp;omega
 |copy h hk bI hd CX fj hl he ih=>rw[ag];simp;omega
def PsM (s:ByteArray)(w0:World)(f g m at_:Nat)(l:List Tk)(v4:Value)(q:Nat)(v6:Value)(wx:World):Prop:=∃(n:Nat) (t:Tk),v6= .int .i64 (n:Nat)/\1<=n/\at_+n<=s.size/\
 Hid (gL (c_ s) (l++[t]) (at_+n)/\Bk wx q 343 #[.int .i64 (t.len:Nat),.int .i64 (t.aq:Nat),.int .i64 (t.lit:Nat)]/\PsI s w0 f g m at_ l v4 wx/\w0.heap.size<=q)
def PsEnd (s:ByteArray)(w:World)(e:Ending)(w':World):Prop:=∃(l:List Tk) (A:Option Addr) (n c:Nat),e= .returned (.slice A n c)/\l.length=n/\n<=s.size/\gL (c_ s) l s.size/\Rd w' A (fm l)/\(∀ad,A=some ad->w.heap.size<=ad.block)/\Below w.heap.size w w'
theorem parse_any (s:ByteArray)(hs:s.size<=1000000)(w:World):Calls Tryz.prog 169 #[.string s] w (PsEnd s w):=by
 have hm:=run_make_row' (P:=Tryz.prog) 79 3 (.int .i64 0) 8 Tryz.underlying79 xF rfl .i64 .i64 s.size aa aa
 have vh:∀w:World,(Instr.makeMap 339 none).run Tryz.prog w= .ok (.map (some w.heap.size)) (w.alloc (.map #[] 0)):=λ w=>by
  simp[Instr.makeMap,rV Tryz.underlying339,Result.andThen,go_sem]
 go_enter Tryz.func169,Tryz.ntmps169;go_upto_region 4 with fail
 have gF:Below w.heap.size w (((w.alloc (.map #[] 0)).alloc (.cells (madeCells #[.int .i64 0] s.size) 3)).alloc (.cells #[.string s,.map (some w.heap.size),.slice (some ⟨w.heap.size+1,0,none⟩) s.size s.size] 341)):=
  (((aB _ w).alloc (ai _) _).alloc aj _).alloc (by simp;omega) _
 have Tj:FinAt (((w.alloc (.map #[] 0)).alloc (.cells (madeCells #[.int .i64 0] s.size) 3)).alloc (.cells #[.string s,.map (some w.heap.size),.slice (some ⟨w.heap.size+1,0,none⟩) s.size s.size] 341)) (w.heap.size+1+1) (w.heap.size+1) w.heap.size s 0:=by
  have h1:=dF.made (w.alloc (.map #[] 0)) s.size;rw[lY]at h1;have h2:=Bk.new ((w.alloc (.map #[] 0)).alloc (.cells (madeCells #[.int .i64 0] s.size) 3)) 341 #[.string s,.map (some w.heap.size),.slice (some ⟨w.heap.size+1,0,none⟩) s.size s.size];rw[lY,lY]at h2;have h3:MapTo (w.alloc (.map #[] 0)) w.heap.size 0:=⟨#[],0,l_ w _,aj⟩;have b1:=(aB (w.alloc (.map #[] 0)).heap.size (w.alloc (.map #[] 0))).alloc (ai _) (.cells (madeCells #[.int .i64 0] s.size) 3);have b2:=(aB ((w.alloc (.map #[] 0)).alloc (.cells (madeCells #[.int .i64 0] s.size) 3)).heap.size ((w.alloc (.map #[] 0)).alloc (.cells (madeCells #[.int .i64 0] s.size) 3))).alloc (ai _) (.cells #[.string s,.map (some w.heap.size),.slice (some ⟨w.heap.size+1,0,none⟩) s.size s.size] 341);refine⟨h2,⟨_,h1.aL b2,cA,λ p=>?_⟩,(h3.same (b1.block _ h3.lt)).same (b2.block _ (h3.same (b1.block _ h3.lt)).lt),aa,aa,aa⟩;rw[a_,nE];split<;>simp
 have aG:(((w.alloc (.map #[] 0)).alloc (.cells (madeCells #[.int .i64 0] s.size) 3)).alloc (.cells #[.string s,.map (some w.heap.size),.slice (some ⟨w.heap.size+1,0,none⟩) s.size s.size] 341)).heap.size=w.heap.size+3:=aj;obtain⟨g,hg⟩:∃g,w.heap.size+1=g:=⟨_,rfl⟩;obtain⟨f,hf⟩:∃f,g+1=f:=⟨_,rfl⟩;rw[hg,hf]at Tj⊢;rw[hg]at gF aG;have HS:=ae (show f<w.heap.size+3/\g<w.heap.size+3/\w.heap.size<=f/\w.heap.size<=g from⟨aa,aa,aa,aa⟩);have adr:=ae Tj;have dX:=ae (af gF aG);clear hm vh gF Tj aG;generalize((w.alloc (.map #[] 0)).alloc (.cells (madeCells #[.int .i64 0] s.size) 3)).alloc (.cells #[.string s,.map (some w.heap.size),.slice (some ⟨g,0,none⟩) s.size s.size] 341)=w0 at*;have H0:=ae (show PsI s w0 f g w.heap.size 0 [] (.slice none 0 0) w0 from⟨.nil,adr.out,jD _ _ _ _,by have:=HS.out;have:=dX.out.2;omega,KX.refl⟩);clear adr hg hf;obtain⟨m,FC⟩:∃m,w.heap.size=m:=⟨_,rfl⟩;rw[FC]at H0;have HM:=ae FC;clear FC;go_wp2_with fail;go_loopw [4,5] (λ v4 v5 wr=>∃(at_:Nat) (l:List Tk),v5= .int .i64 (at_:Nat)/\at_<=s.size/\Hid (PsI s w0 f g m at_ l v4 wr)) (λ _ v5 _=>s.size-vnat v5)
 case atStart=>exact⟨0,[],rfl,gV _,H0⟩
 case round=>
  clear H0;obtain⟨at_,l,rfl,qq,HI⟩:=hrel;by_cases ao:(at_:Int)<(s.size:Int)
  ·have zt:=ae (lzfind_any f g m at_ s aa aa wr HI.out.fin);go_upto_region 6 with(go_at_call 232;go_must (refine zt.out.mono ?_);rintro e w1 ⟨n,d,rfl,Ma,au⟩);have zs:=ae Ma;have cD:=ae au;clear Ma au zt;go_upto_region 7 with fail;obtain⟨q,hq⟩:∃q,w1.heap.size=q:=⟨_,rfl⟩;have hK:=Bk.new w1 343 #[.int .i64 (n:Nat),.int .i64 (d:Nat),.int .i64 0];have xW:=ae ((HI.out.below cD.out).below ((aB _ w1).alloc (ai _) (.cells #[.int .i64 (n:Nat),.int .i64 (d:Nat),.int .i64 0] 343)));have HQ:=ae (show w0.heap.size<=q by rw[<-hq];exact b_ HI.out.bl.size cD.out.size);have D7:=ae (show∀k,Value.ownBlock u4=some k->k≠q from λ k hk=>by have:=((HI.out.below cD.out).own.lt k hk).2;omega);rw[hq]at hK⊢;clear hq HI cD;generalize w1.alloc (.cells #[.int .i64 (n:Nat),.int .i64 (d:Nat),.int .i64 0] 343)=w2 at*;go_upto_if 30 with(fail);go_cut [6]from 31 to 36 (λ v6 wx=>PsM s w0 f g m at_ l u4 q v6 wx)
   case first=>
    by_cases hn:(n:Int)<3
    ·have z0:w2.cell? ⟨q,0,none⟩=some (.int .i64 (n:Nat)):=hK.cell_ 0 _ rfl;have z1:w2.cell? ⟨q,1,none⟩=some (.int .i64 (d:Nat)):=hK.cell_ 1 _ rfl;have z2:w2.cell? ⟨q,2,none⟩=some (.int .i64 0):=hK.cell_ 2 _ rfl;have f0:=hK.frozen 0;have f1:=hK.frozen 1;have f2:=hK.frozen 2;have HK:=ae hK;have iJ:=ae (show at_<s.size by omega);clear hK;have fO:(at_:Int)<(s.size:Int):=by have:=iJ.out;omega
     have avX:wrap64 (((s[at_]'iJ.out).toNat:Nat):Int)=(((s[at_]'iJ.out).toNat:Nat):Int):=by have:=gT (s[at_]'iJ.out);unfold wrap64;omega
     go_wp2_with fail;go_meet;have h1:=((HK.out.aP 0 (.int .i64 0)).aP 1 (.int .i64 0)).aP 2 (.int .i64 ((s[at_]'iJ.out).toNat:Nat));have h2:=((xW.out.far HQ.out D7.out 0 (.int .i64 0)).far HQ.out D7.out 1 (.int .i64 0)).far HQ.out D7.out 2 (.int .i64 ((s[at_]'iJ.out).toNat:Nat));refine⟨1,⟨(s[at_]'iJ.out).toNat,0,0⟩,rfl,aa,iJ.out,ae ⟨?_,h1,h2,HQ.out⟩⟩;have h3:=gL.lit xW.out.tk (by rw[o_];exact iJ.out) (by rw[txN_at s at_ iJ.out];exact gT _);rwa [txN_at s at_ iJ.out]at h3
    ·have aqf:=zs.out
     have HM:Hid (PsM s w0 f g m at_ l u4 q (.int .i64 (n:Nat)) w2):=by
      rcases zs.out with⟨h,_⟩|⟨h1,h2,h3,h4,h5,h6⟩
      ·omega
      ·refine ae ⟨n,⟨0,n,d⟩,rfl,aa,h2,ae ⟨gL.copy xW.out.tk aa h1 h3 h5 h4 (by rw[o_];exact h2) (λ i hi=>txN_same s _ _ (h6 i hi)),hK,xW.out,HQ.out⟩⟩
     clear zs aqf hK xW HQ;go_wp2_with fail;go_meet;exact HM.out
   case rest=>
    clear hK zs xW;obtain⟨k,t,rfl,oP,yR,HP⟩:=hcut;go_wp2_with fail;go_loopw [5,37] (λ v5 v37 wx=>∃i:Nat,v5= .int .i64 ((at_:Int)+(i:Int))/\v37= .int .i64 (i:Nat)/\i<=k/\Hid (Bk wx q 343 #[.int .i64 (t.len:Nat),.int .i64 (t.aq:Nat),.int .i64 (t.lit:Nat)]/\FinAt wx f g m s (at_+i)/\KX (PutK f g m) wc wx)) (λ _ v37 _=>k-vnat v37)
    case atStart=>exact⟨0,aj,rfl,gV _,ae ⟨HP.out.2.1,HP.out.2.2.1.fin,KX.refl⟩⟩
    case round=>
     obtain⟨i,rfl,rfl,oT,HX⟩:=hrel;by_cases fO:(i:Int)<(k:Int)
     ·have vM:=ae (lzput_any f g m (at_+i) s aa aa wr HX.out.2.1);rw[Int.natCast_add]at vM;go_wp2_with fail;(with_reducible refine vM.out.mono ?_);rintro e w5 ⟨rfl,Fs,Tl⟩;have aS:¬PutK f g m q:=by have:=HP.out.2.2.1.old;have:=HP.out.2.2.2;unfold PutK;omega
      have dY:=ae (af (HX.out.1.kx Tl aS) (af Fs (HX.out.2.2.trans Tl λ _ _ h=>h)));clear Fs Tl vM HX aS;go_wp2_with fail;go_roundw
      case rel=>exact⟨i+1,by first|rfl|go_num,by first|rfl|go_num,aa,dY⟩
      case measure=>simp[vnat];omega
     ·obtain rfl:i=k:=aa;have z0:wr.cell? ⟨q,0,none⟩=some (.int .i64 (t.len:Nat)):=HX.out.1.cell_ 0 _ rfl;have z1:wr.cell? ⟨q,1,none⟩=some (.int .i64 (t.aq:Nat)):=HX.out.1.cell_ 1 _ rfl;have z2:wr.cell? ⟨q,2,none⟩=some (.int .i64 (t.lit:Nat)):=HX.out.1.cell_ 2 _ rfl;have hlen:l.length<=at_:=toks_len HP.out.2.2.1.tk
      have hO:wr.ownsRow w0.heap.size 343 3 u4 l.length (fm l):=FK HP.out.2.2.1.own HX.out.2.2 λ k hk e=>by
       have h1:=(HP.out.2.2.1.own.lt k hk).1;have h2:=HP.out.2.2.1.old;rcases e with e|e<;>omega
      have JZ:w0.heap.size<=wr.heap.size:=b_ HP.out.2.2.1.bl.size HX.out.2.2.size;have HO:=ae (af hO JZ);obtain⟨dl,kM⟩:∃dl,l.length=dl:=⟨_,rfl⟩;rw[kM]at HO hlen;have iX:=ae kM;clear kM hO JZ;go_wp2_with (at_builtin;go_must (refine vI _ rfl (.tmp 45) (.tmp 47) 259 rfl w0.heap.size 343 3 24 el_tok _ dl (fm l) HO.out.1 rfl _ 1 rfl rfl (by intro u hu;simp at hu;rcases hu with rfl|rfl|rfl<;>rfl) (by unfold maxLen;omega) aa HO.out.2 ?_);intro v6 w6 j6 b9)
      have aqg:=ae (show PsI s w0 f g m (at_+i) (l++[t]) v6 w6 from by
       have h1:=HP.out.2.2.1.old;have h2:=HP.out.2.2.1.bl.trans HX.out.2.2 (λ _ _ h=>h);refine⟨HP.out.1,HX.out.2.1.eqs (b9.block f h1.1) (b9.block g h1.2.1) (b9.block m h1.2.2),?_,h1,h2.low b9⟩;rw[ana,ag,iX.out];exact j6)
      clear j6 b9 HO HX HP z0 z1 z2;go_wp2_with fail;go_roundw
      case rel=>exact⟨at_+i,l++[t],by first|rfl|go_num,yR,aqg⟩
      case measure=>simp[vnat];omega
  ·obtain rfl:at_=s.size:=aa;have hB:Below w.heap.size w wr:=dX.out.1.trans (HI.out.bl.below (by have:=dX.out.2;omega) λ k hk=>by have:=HS.out;have:=HM.out;rcases hk with e|e<;>omega);obtain⟨A5,c5,e5,DH,DI,Bl,Bm,Bo⟩:=rX.own HI.out.own hB (by have:=dX.out.2;omega);obtain⟨z,hz⟩:∃z,l.length=z:=⟨_,rfl⟩;have HZ:=ae (af hz (af HI.out.tk (af Bl (af Bm Bo))));rw[hz]at e5;have e6:_=Value.slice A5 z c5:=Ending.returned.inj e5;subst e6;clear e5 hz DH DI Bl Bm Bo HI hB;go_wp2_with fail;go_ret;exact⟨l,A5,z,c5,rfl,HZ.out.1,by rw[<-HZ.out.1];exact toks_len HZ.out.2.1,HZ.out.2.1,HZ.out.2.2.1,HZ.out.2.2.2.1,HZ.out.2.2.2.2⟩
