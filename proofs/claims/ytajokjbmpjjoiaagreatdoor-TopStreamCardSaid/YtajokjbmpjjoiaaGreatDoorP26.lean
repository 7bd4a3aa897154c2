import Derived.Test.YtajokjbmpjjoiaaGreatDoorP01
import Derived.Lib.AtoiErrMem
import Derived.Lib.ConvBytes
import Derived.Lib.FrozenHead
import Derived.Lib.SliceRun
set_option maxRecDepth 20000
set_option maxHeartbeats 0
namespace Go.Proofs.YtajokjbmpjjoiaaGreatDoor
section
open Go.RowKit Go.Lib
theorem SM (P:Program)(g o:Nat)(t:TypeId)(fz:Nat×Nat):∀(vs:List Value) (i:Nat) (cur:Array Value) (w:World),w.heap[g]? =some (.cells cur t fz)->(fz.2=0∨cur.size<=fz.1)->o+i+vs.length<=cur.size->(∀v∈vs,v.oneCell'=true)->
 (storeCells ⟨g,o,none⟩ vs i).run P w= .ok () (w.setRow g (cur.toList.take (o+i)++vs++cur.toList.drop (o+i+vs.length)).toArray)
 |[],i,cur,w,hg,_,_,_=>by
  simp only[storeCells,bV,cL,Nat.add_zero,gI,Array.toArray_toList];rw[setRow_self w g cur t fz hg];rfl
 |v::rest,i,cur,w,hg,rm,hl,h1=>by
  have hi:o+i<cur.size:=by simp at hl;omega
  have ao0:(⟨g,o,none⟩:Addr).add i=⟨g,o+i,none⟩:=lD g o i;have eT:w.cell? ⟨g,o+i,none⟩=some cur[o+i]:=by simp[World.cell?,hg,hi]
  have ao1:w.frozen? ⟨g,o+i,none⟩=false:=by
   obtain⟨lo,uC⟩:=fz;simp only[World.frozen?,hg,Bool.and_eq_false_iff,decide_eq_false_iff_not];simp only at rm;omega
  have bu:(store ((⟨g,o,none⟩:Addr).add i) v).run P w= .ok () (w.setRow g (cur.setIfInBounds (o+i) v)):=by
   rw[ao0,run_store P w _ v _ (h1 v aj),eT];simp[ao1,setCell_eq_setRow w g (o+i) cur t fz v hg]
  have ih:=SM P g o t fz rest (i+1) (cur.setIfInBounds (o+i) v) (w.setRow g (cur.setIfInBounds (o+i) v)) (kd w g cur _ t _ hg) (by simpa using rm) (by simp at hl⊢;omega) (λ x hx=>h1 x (by simp[hx]));simp only[storeCells,dZ,bu,Result.andThen_ok,ih,setRow_setRow];congr 3;have e:=list_seg_step cur.toList (o+i) v rest (by simp at hl⊢;omega);simpa[yc,rQ]using e
def OwnB (w:World)(base:Nat)(e:TypeId)(v:Value)(l:List UInt8):Prop:=
 ∃g cap cur fz,v= .slice (some ⟨g,0,none⟩) l.length cap/\base<=g/\w.heap[g]? =some (.cells cur e fz)/\(fz.2=0∨cur.size<=fz.1)/\l.length<=cap/\cap<=maxLen/\cur.size=cap/\cur.toList.take l.length=aJ l
theorem OwnB.aL {w w':World}{base:Nat}{e:TypeId}{v:Value}{l:List UInt8}(h:OwnB w base e v l)(hb:Below w.heap.size w w'):OwnB w' base e v l:=by
 obtain⟨g,cap,cur,fz,h1,h2,h3,h4⟩:=h;exact⟨g,cap,cur,fz,h1,h2,(hb.block g (kZ.1 h3).1).trans h3,h4⟩
theorem OwnB.cells {w:World}{base:Nat}{e:TypeId}{v:Value}{l:List UInt8}(h:OwnB w base e v l):∃g cap,v= .slice (some ⟨g,0,none⟩) l.length cap/\l.length<=cap/\cap<=maxLen/\base<=g/\g<w.heap.size/\∀j u,(aJ l)[j]? =some u->w.cell? ((⟨g,0,none⟩:Addr).add j)=some u:=by
 obtain⟨g,cap,cur,fz,h1,h2,h3,_,h5,h6,h7,h8⟩:=h;refine⟨g,cap,h1,h5,h6,h2,(kZ.1 h3).1,λ j u hj=>?_⟩;rw[lD,cell_of_row w g _ cur e fz h3,jd];rw[<-h8,mL]at hj;split at hj
 ·simpa using hj
 ·cases hj
theorem abV (s:ByteArray):strCells s=aJ s.toList:=by
 rw[kY];rfl
theorem OwnB.conv (w:World)(e:TypeId)(s:ByteArray)(hs:s.size<=maxLen):OwnB (bytesWorld w e s) w.heap.size e (.slice (some ⟨w.heap.size,0,none⟩) s.size (grownCap w s.size 0 e)) s.toList:=by
 have lk:=grownCap_ge w s.size 0 e;have fG:=EE w s.size 0 e hs
 have aG:(bytesCells w e s).size=grownCap w s.size 0 e:=by
  unfold bytesCells;rw[wI,Array.size_map,Array.size_replicate];have:s.data.size=s.size:=rfl;omega
 refine⟨w.heap.size,_,_,_,by rw[aD],ai _,bytesWorld_at_new w e s,.inr (ai _),by rw[aD];exact lk,fG,aG,?_⟩;unfold bytesCells;rw[Cp,te (by rw[Array.toList_map,eG,aD];rfl),Array.toList_map,kY];rfl
section
variable {P:Program}
theorem ao2 (w:World)(t ty e:TypeId)(i:TypeInfo)(ht:P.underlying t=some (.slice e))(hi:P.info? e=some i)(dH:i.size=1)
 (g qa DY:Nat)(cur:Array Value)(fz:Nat×Nat)(hg:w.heap[g]? =some (.cells cur e fz))(rm:fz.2=0∨cur.size<=fz.1)(ad:Addr)(m c:Nat)(news:List Value)(hl:news.length=m)(hn:∀j u,news[j]? =some u->w.cell? (ad.add j)=some u)(h1:∀u∈news,u.oneCell'=true)
 (oQ:qa+m<=DY)(qt:qa+m<=cur.size):
 (Builtin.append_ #[t,t] ty #[.slice (some ⟨g,0,none⟩) qa DY,.slice (some ad) m c]).run P w=
  .ok (.slice (some ⟨g,0,none⟩) (qa+m) DY) (w.setRow g (cur.toList.take qa++news++cur.toList.drop (qa+m)).toArray):=by
 have hf:=run_firstCells_some (P:=P) w 1 m ad m c news aa hn;have bu:=SM P g qa e fz news 0 cur w hg rm aa h1;simp only[Nat.add_zero,hl]at bu;simp[Builtin.append_,rV ht,sizeOf,typeInfo,hi,dH,Builtin.lenOf,oQ,hf,Addr.add_lit,bu]
theorem ao3 (w:World)(base:Nat)(t ty e:TypeId)(i:TypeInfo)(ht:P.underlying t=some (.slice e))(hi:P.info? e=some i)(hz:i.zero=some (.int .u8 0))
 (lE:i.size=1)(nH:i.bytes=1)(v:Value)(l:List UInt8)(aw:OwnB w base e v l)(ad:Addr)(m c:Nat)(bs:List UInt8)(hm:bs.length=m)(hn:∀j u,(aJ bs)[j]? =some u->w.cell? (ad.add j)=some u)
 (iQ:l.length+m<=1000000000000)(jG:base<=w.heap.size):
 ∃v' w',(Builtin.append_ #[t,t] ty #[v,.slice (some ad) m c]).run P w= .ok v' w'/\OwnB w' base e v' (l++bs)/\Below base w w':=by
 have kh:l.length+m<=maxLen:=by unfold maxLen;omega
 have fP:=aw.cells;obtain⟨g,cap,cur,fz,rfl,fM,hg,rm,hnc,fG,hcs,SN⟩:=aw;have hlen:(l++bs).length=l.length+m:=by rw[ag,hm]
 have uY:∀u∈aJ bs,u.oneCell'=true:=λ u hu=>by
  unfold aJ at hu;obtain⟨x,_,rfl⟩:=kJ.1 hu;rfl
 have e1:aJ l++aJ bs=aJ (l++bs):=by unfold aJ;rw[ka]
 by_cases oQ:l.length+m<=cap
 ·have hr:=ao2 (P:=P) w t ty e i ht hi lE g l.length cap cur fz hg rm ad m c (aJ bs) (by rw[je,hm]) hn uY oQ aa;refine⟨_,_,hr,⟨g,cap,_,fz,by rw[hlen],fM,kd w g cur _ e _ hg,?_,by rw[hlen];exact oQ,fG,?_,?_⟩,⟨rfl,rfl,rfl,aj,λ k hk=>setRow_other w g k _ aa⟩⟩
  ·refine rm.imp id λ h=>?_;simp only[pv,ag,ba,cw,Array.length_toList,je];omega
  ·simp only[pv,ag,ba,cw,Array.length_toList,je];omega
  ·rw[SN,e1];exact te (je _)
 ·obtain⟨g',Ia,e',_,_,_,_,hc⟩:=fP
  cases e'
  have hr:=run_append_grow (P:=P) (w:=w) t ty e i (.int .u8 0) ht hi hz ⟨g,0,none⟩ l.length cap (aJ l) (by rw[lE,je];omega) hc ad m c (aJ bs) (by rw[lE,je,hm];omega) hn aa (by unfold maxLen at*;omega) (by rw[nH];exact growslice_fits aa aa);have lk:=grownCap_ge w (l.length+m) cap e;have Gb:grownCap w (l.length+m) cap e<=maxLen:=EE w (l.length+m) cap e kh;refine⟨_,_,hr,⟨w.heap.size,_,_,(0,0),by rw[hlen],jG,l_ w.drew _,.inl rfl,by rw[hlen];exact lk,Gb,?_,?_⟩,⟨rfl,rfl,rfl,aj,λ k hk=>wF w.drew _ k (show k<w.heap.size by omega)⟩⟩
  ·have dN:(Value.int IntKind.u8 0).cells.size=1:=rfl;simp only[wI,pv,size_zeroCells,dN,je];omega
  ·simp only[Cp,aN];rw[<-aN,e1];exact te (je _)
theorem ao4 {ops:Array Oper}{rest:List Oper}{o:Oper}{a:Act}{w:World}{Q:Exit->Act->World->Prop}(d_:o.guard=none)(sl x:Operand)(t:TypeId)
 (ho:o.op= .call {callee:=.builtin .append,args:=#[sl,x],argTypes:=#[t,t]})
 (base:Nat)(e:TypeId)(jF:El P t e 1 1)(hz:(P.info? e).map (λ i=>(i.zero,i.size,i.bytes))=some (some (.int .u8 0),1,1))
 (v:Value)(l:List UInt8)(hs:a.eval sl=v)(aw:OwnB w base e v l)(b:UInt8)(n:Int)(wS:(b.toNat:Int)=n)(hx:a.eval x= .slice (some ⟨w.heap.size,0,none⟩) 1 1)
 (iQ:l.length+1<=1000000000000)(jG:base<=w.heap.size)
 (h:∀v' w',OwnB w' base e v' (l++[b])->Below base w w'->wpList P ops Q rest (a.put o.dst v') w'):wpList P ops Q (o::rest) a (w.alloc (.cells #[.int .u8 n] e)):=by
 subst wS;refine wpList_plain d_ λ K hK=>?_;obtain⟨i,hi,z0,z1,z2⟩:=info_parts hz;have ej:Below w.heap.size w (w.alloc (.cells #[.int .u8 (b.toNat:Int)] e)):=(aB _ w).alloc (ai _) _
 obtain⟨v',w',hr,h2,h3⟩:=ao3 (P:=P) (w.alloc (.cells #[.int .u8 (b.toNat:Int)] e)) base t o.type e i jF.1 hi z0 z1 z2 v l (aw.aL ej) ⟨w.heap.size,0,none⟩ 1 1 [b] rfl (λ j u hj=>by
  rw[lD,zF];simpa[aJ]using hj) iQ (by simp;omega)
 unfold Oper.wp execOp;simp only[ho,resolve,invoke,builtin,dZ,Sem.run_pure,Result.andThen_ok,zP,List.map_cons,List.map_nil,hs,hx,hr];exact hK _ _ (h v' w' h2 ((ej.mono jG).trans h3))
end
theorem ao5 {P:Program}{w:World}{base:Nat}{e0:TypeId}{v:Value}{l:List UInt8}(aw:OwnB w base e0 v l)(src dst e:TypeId)(hs:P.underlying src=some (.slice e))(he:P.underlying e=some (.int .u8))(hd:P.underlying dst=some .string):
 (convert src dst v).run P w= .ok (.string (av l)) w:=by
 obtain⟨g,cap,rfl,_,_,_,_,hc⟩:=aw.cells;exact yn w src dst e ⟨g,0,none⟩ cap l l.length rfl hs he hd hc
end
section
open Go.RowKit Go.Lib
def Gc (v:Value)(A:Option Addr)(xs:List Value):Prop:=xs≠[]->∀ad,A=some ad->v.ownBlock≠some ad.block
theorem Rd.NP {w w':World}{A:Option Addr}{xs:List Value}{v:Value}(h:Rd w A xs)(hg:w.grownBy w' v.ownBlock)(ho:Gc v A xs):Rd w' A xs:=λ hn=>by
 obtain⟨b,o,e,hc⟩:=h hn;refine⟨b,o,e,λ j u hj=>hg.cell (hc j u hj) ?_⟩;have:=ho hn _ e;intro e2;exact this (by rw[<-e2])
theorem Gc.next {w:World}{v v':Value}{A:Option Addr}{xs:List Value}(h:Gc v A xs)(hr:Rd w A xs)(h2:∀k,k<w.heap.size->v.ownBlock≠some k->v'.ownBlock≠some k):Gc v' A xs:=λ hn ad hA=>by
 obtain⟨b,o,e,hc⟩:=hr hn
 have hb:b<w.heap.size:=by
  cases xs with
  |nil=>exact absurd rfl hn
  |cons x xs=>exact cQ w _ (hc 0 x rfl)
 rw[hA]at e
 cases e
 exact h2 b hb (h hn _ hA)
theorem OwnB.ne {w:World}{base:Nat}{e:TypeId}{v:Value}{l:List UInt8}(h:OwnB w base e v l):v.ownBlock≠some w.heap.size:=by
 obtain⟨g,cap,rfl,_,_,_,ao,_⟩:=h.cells;simp[Value.ownBlock];omega
theorem Bk.NP {w w':World}{g:Nat}{t:TypeId}{cs:Array Value}{v:Value}(h:Bk w g t cs)(hg:w.grownBy w' v.ownBlock)(aS:v.ownBlock≠some g):Bk w' g t cs:=(hg.block g h.lt (λ e=>aS e.symm)).trans h
section
variable {P:Program}
theorem ao6 (w:World)(t u ty e:TypeId)(i:TypeInfo)(ht:P.underlying t=some (.slice e))(hu:P.underlying u=some .string)(hi:P.info? e=some i)(dH:i.size=1)
 (g qa DY:Nat)(cur:Array Value)(fz:Nat×Nat)(hg:w.heap[g]? =some (.cells cur e fz))(rm:fz.2=0∨cur.size<=fz.1)(s:ByteArray)
 (oQ:qa+s.size<=DY)(qt:qa+s.size<=cur.size):
 (Builtin.append_ #[t,u] ty #[.slice (some ⟨g,0,none⟩) qa DY,.string s]).run P w=
  .ok (.slice (some ⟨g,0,none⟩) (qa+s.size) DY) (w.setRow g (cur.toList.take qa++strCells s++cur.toList.drop (qa+s.size)).toArray):=by
 have hf:=run_firstCells_string (P:=P) w 1 s;have bu:=SM P g qa e fz (strCells s) 0 cur w hg rm (by simpa[strCells_length]using qt) (strCells_oneCell s);simp only[Nat.add_zero,strCells_length]at bu;simp[Builtin.append_,rV ht,rV hu,sizeOf,typeInfo,hi,dH,Builtin.lenOf,oQ,hf,Addr.add_lit,bu]
theorem ao7 (w:World)(base:Nat)(t u ty e:TypeId)(i:TypeInfo)(ht:P.underlying t=some (.slice e))(hu:P.underlying u=some .string)(hi:P.info? e=some i)(hz:i.zero=some (.int .u8 0))
 (lE:i.size=1)(nH:i.bytes=1)(v:Value)(l:List UInt8)(aw:OwnB w base e v l)(s:ByteArray)
 (iQ:l.length+s.size<=1000000000000)(jG:base<=w.heap.size):
 ∃v' w',(Builtin.append_ #[t,u] ty #[v,.string s]).run P w= .ok v' w'/\OwnB w' base e v' (l++s.toList)/\Below base w w'/\w.grownBy w' v.ownBlock/\∀k,k<w.heap.size->v.ownBlock≠some k->v'.ownBlock≠some k:=by
 have kh:l.length+s.size<=maxLen:=by unfold maxLen;omega
 have fP:=aw.cells;obtain⟨g,cap,cur,fz,rfl,fM,hg,rm,hnc,fG,hcs,SN⟩:=aw;have hlen:(l++s.toList).length=l.length+s.size:=by rw[ag,aD]
 by_cases oQ:l.length+s.size<=cap
 ·have hr:=ao6 (P:=P) w t u ty e i ht hu hi lE g l.length cap cur fz hg rm s oQ aa;refine⟨_,_,hr,⟨g,cap,_,fz,by rw[hlen],fM,kd w g cur _ e _ hg,?_,by rw[hlen];exact oQ,fG,?_,?_⟩,⟨rfl,rfl,rfl,aj,λ k hk=>setRow_other w g k _ aa⟩,⟨rfl,rfl,rfl,aj,λ k _ hk=>setRow_other w g k _ (λ e=>hk (by simp[Value.ownBlock,e]))⟩,λ k _ aS=>aS⟩
  ·refine rm.imp id λ h=>?_;simp only[pv,ag,ba,cw,Array.length_toList,strCells_length];omega
  ·simp only[pv,ag,ba,cw,Array.length_toList,strCells_length];omega
  ·rw[SN,abV];have e1:aJ l++aJ s.toList=aJ (l++s.toList):=by unfold aJ;rw[ka]
   rw[e1];exact te (je _)
 ·obtain⟨g',Ia,e',_,_,_,_,hc⟩:=fP
  cases e'
  have hr:=run_append_grow_string (P:=P) w t u ty e i (.int .u8 0) ht hu hi hz ⟨g,0,none⟩ l.length cap (aJ l) (by rw[lE,je];omega) hc s aa (by unfold maxLen at*;omega) (by rw[nH];exact growslice_fits aa aa);have lk:=grownCap_ge w (l.length+s.size) cap e;have Gb:grownCap w (l.length+s.size) cap e<=maxLen:=EE w (l.length+s.size) cap e kh;refine⟨_,_,hr,⟨w.heap.size,_,_,(0,0),by rw[hlen],jG,l_ w.drew _,.inl rfl,by rw[hlen];exact lk,Gb,?_,?_⟩,⟨rfl,rfl,rfl,aj,λ k hk=>wF w.drew _ k (show k<w.heap.size by omega)⟩,⟨rfl,rfl,rfl,aj,λ k hk _=>wF w.drew _ k hk⟩,λ k hk _=>by simp[Value.ownBlock];omega⟩
  ·have dN:(Value.int IntKind.u8 0).cells.size=1:=rfl;simp only[wI,pv,size_zeroCells,dN,je,strCells_length];omega
  ·simp only[Cp,aN];rw[abV];have e1:aJ l++aJ s.toList=aJ (l++s.toList):=by unfold aJ;rw[ka]
   rw[<-aN,e1];exact te (je _)
theorem abW {ops:Array Oper}{rest:List Oper}{o:Oper}{a:Act}{w:World}{Q:Exit->Act->World->Prop}(d_:o.guard=none)(sl x:Operand)(t u:TypeId)
 (ho:o.op= .call {callee:=.builtin .append,args:=#[sl,x],argTypes:=#[t,u]})
 (base:Nat)(e:TypeId)(jF:El P t e 1 1)(hu:P.underlying u=some .string)(hz:(P.info? e).map (λ i=>(i.zero,i.size,i.bytes))=some (some (.int .u8 0),1,1))
 (v:Value)(l:List UInt8)(hs:a.eval sl=v)(aw:OwnB w base e v l)(s:ByteArray)(hx:a.eval x= .string s)
 (iQ:l.length+s.size<=1000000000000)(jG:base<=w.heap.size)
 (h:∀v' w',OwnB w' base e v' (l++s.toList)->Below base w w'->w.grownBy w' v.ownBlock->(∀k,k<w.heap.size->v.ownBlock≠some k->v'.ownBlock≠some k)->wpList P ops Q rest (a.put o.dst v') w'):wpList P ops Q (o::rest) a w:=by
 refine wpList_plain d_ λ K hK=>?_;obtain⟨i,hi,z0,z1,z2⟩:=info_parts hz;obtain⟨v',w',hr,h2,h3,h4,h5⟩:=ao7 (P:=P) w base t u o.type e i jF.1 hu hi z0 z1 z2 v l aw s iQ jG;unfold Oper.wp execOp;simp only[ho,resolve,invoke,builtin,dZ,Sem.run_pure,Result.andThen_ok,zP,List.map_cons,List.map_nil,hs,hx,hr];exact hK _ _ (h v' w' h2 h3 h4 h5)
