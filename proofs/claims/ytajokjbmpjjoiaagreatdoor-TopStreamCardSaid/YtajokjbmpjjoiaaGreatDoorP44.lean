import Derived.Test.YtajokjbmpjjoiaaGreatDoorP06
import Derived.Test.YtajokjbmpjjoiaaGreatDoorP12
import Derived.Test.YtajokjbmpjjoiaaGreatDoorP32
import Derived.Lib.Join
set_option maxRecDepth 20000
set_option maxHeartbeats 0
set_option linter.unusedSimpArgs false
set_option linter.unusedVariables false
namespace Go.Proofs.YtajokjbmpjjoiaaGreatDoor
section
open Go.RowKit Go.Lib
def oH:List ByteArray->List UInt8
 |[]=>[]
 |s::l=>s.toList++oH l
theorem UB:∀(l:List ByteArray),(∀s∈l,s.size=224)->(oH l).length=224*l.length
 |[],_=>rfl
 |s::l,h=>by
  have h1:=h s aj;have h2:=UB l λ x hx=>h x (by simp[hx]);simp only[oH,ag,aD,h1,h2,aU];omega
theorem afb (ss:List ByteArray):Lib.join (ss.map (·.data.toList)) []=oH ss:=by
 cases ss with
 |nil=>rfl
 |cons x l=>
  rw[List.map_cons,Lib.join_cons];unfold Lib.joinTail
  have e:∀m:List ByteArray,((m.map (·.data.toList)).map ([]++·)).flatten=oH m:=λ m=>by
   induction m with
   |nil=>rfl
   |cons y m ih=>simp only[List.map_cons,fY,List.nil_append,oH]at ih⊢;rw[ih,kY]
  rw[e,oH,kY]
theorem asj (ss:List ByteArray)(A:Option Addr)(n c:Nat)(hn:ss.length=n)(fk:n<=1000)(hc:n<=c)(hl:(oH ss).length<=1000000)(w:World)(hr:Rd w A (cO ss)):
 Calls Tryz.prog 37 #[.slice A n c,.string ⟨#[]⟩] w λ e w'=>e= .returned (.string (av (oH ss)))/\Below w.heap.size w w':=by
 subst hn
 cases ss with
 |nil=>
  refine(Tryz.strings_Join_none A c ⟨#[]⟩ w).mono ?_;rintro e w' ⟨rfl,rfl⟩;exact⟨rfl,aB _ _⟩
 |cons y r=>
  obtain⟨b,o,rfl,eT⟩:=hr (by simp[cO]);have h0:(⟨#[]⟩:ByteArray).data.toList=[]:=rfl;have h:=Tryz.strings_Join b o c (y::r) ⟨#[]⟩ w (λ j x hx=>eT j _ (by unfold cO;rw[eH,hx];rfl)) (cQ w _ (eT 0 _ rfl)) aa hc (by rw[h0,afb];omega);rw[h0,afb]at h;exact h
def Kt (id:Int)(sa:ByteArray)(n bs raw:Int)(ro ta:ByteArray)(ss:List ByteArray):ByteArray:=kT id sa n bs raw ro ta++av (oH ss)
theorem asl (id:Int)(sa:ByteArray)(bs raw:Int)(ro ta:ByteArray)(ss:List ByteArray)(A:Option Addr)(k c:Nat)(bq:fU id sa (k:Nat) bs raw ro ta=true)(hk:ss.length=k)(xn:k<=1000)(sD:k<=c)(hs:∀s∈ss,s.size=224)(w:World)(hr:Rd w A (cO ss)):
 Calls Tryz.prog 9 #[wk id sa (k:Nat) bs raw ro ta A k c] w λ e w'=>e= .returned (.tuple #[.string (Kt id sa (k:Nat) bs raw ro ta ss),.int .i64 0])/\Below w.heap.size w w':=by
 have hb:=sP w (.cells #[.int .i64 id,.string sa,.int .i64 (k:Nat),.int .i64 bs,.int .i64 raw,.string ro,.string ta,.slice A k c] 29);have hA:pk (w.alloc (.cells #[.int .i64 id,.string sa,.int .i64 (k:Nat),.int .i64 bs,.int .i64 raw,.string ro,.string ta,.slice A k c] 29)) w.heap.size id sa (k:Nat) bs raw ro ta A k c:=Bk.new _ _ _;have Ku:=ae (λ w'=>aaY id sa (k:Nat) bs raw ro ta w' bq)
 have aG:(kT id sa (k:Nat) bs raw ro ta).size=98:=by
  have h:=fZ bq;unfold kT;rw[pB,F0];omega
 have aV:(av (oH ss)).size<=224000:=by rw[cV,UB ss hs];omega
 have jN:Hid (∀w',Rd w' A (cO ss)->Calls Tryz.prog 36 #[.agg #[.int .i64 id,.string sa,.int .i64 (k:Nat),.int .i64 bs,.int .i64 raw,.string ro,.string ta,.slice A k c]] w' λ e w2=>e= .returned (.int .i64 0)/\Below w'.heap.size w' w2):=ae λ w' h=>ap6 id sa bs raw ro ta ss A k c hk xn hs w' h;have asm:=ae (λ w' (h:Rd w' A (cO ss))=>asj ss A k c hk xn sD (by rw[<-cV];omega) w' h);unfold wk Kt;generalize kT id sa (k:Nat) bs raw ro ta=H at*;generalize av (oH ss)=C at*;obtain⟨R,hR⟩:∃R,H++C=R:=⟨_,rfl⟩;rw[hR];have m1:¬(9223372036854775807<H.size+C.size):=aa;have HR:=ae (hr.below hb);have HB:=ae hb;have HA:=ae hA;clear hb hA aG aV bq hk hs hr;go_enter Tryz.func9,Tryz.ntmps9;go_upto_region 1 with fail;generalize w.alloc (.cells #[.int .i64 id,.string sa,.int .i64 (k:Nat),.int .i64 bs,.int .i64 raw,.string ro,.string ta,.slice A k c] 29)=w1 at*;generalize hg:w.heap.size=g at*;obtain⟨c0,c1,c2,c3,c4,c5,c6,c7⟩:=HA.out.cells;go_wp2_with fail;(refine(Ku.out w1).mono ?_);rintro e w2 ⟨rfl,aC⟩;have sq:=ae (show pk w2 g id sa (k:Nat) bs raw ro ta A k c from Bk.aL HA.out aC);have bG:=ae (af (HB.out.trans (aC.mono (by rw[<-hg];exact HB.out.size))) (HR.out.below aC));clear c0 c1 c2 c3 c4 c5 c6 c7 aC HA HB HR;obtain⟨c0,c1,c2,c3,c4,c5,c6,c7⟩:=sq.out.cells;go_wp2_with fail;(refine(jN.out w2 bG.out.2).mono ?_);rintro e w3 ⟨rfl,aO⟩;have DV:=ae (show pk w3 g id sa (k:Nat) bs raw ro ta A k c from Bk.aL sq.out aO);have dm:=ae (af (bG.out.1.trans (aO.mono (by rw[<-hg];exact bG.out.1.size))) (bG.out.2.below aO));clear c0 c1 c2 c3 c4 c5 c6 c7 aO sq bG;obtain⟨c0,c1,c2,c3,c4,c5,c6,c7⟩:=DV.out.cells;go_wp2_with fail;(refine(asm.out w3 dm.out.2).mono ?_);rintro e w4 ⟨rfl,cu⟩;have cU:=ae (dm.out.1.trans (cu.mono (by rw[<-hg];exact dm.out.1.size)));clear cu;go_wp2_with fail;go_ret2;exact⟨rfl,by rw[hg];exact cU.out⟩
theorem asn {P:Program}{o:Oper}{a:Act}{w:World}{K:Act->World->Prop}{Q:Exit->Act->World->Prop}(s x:Operand)(t:TypeId)
 (ho:o.op= .call {callee:=.builtin .append,args:=#[s,x],argTypes:=#[t,t]})
 (base:Nat)(e:TypeId)(size bytes:Nat)(jF:El P t e size bytes)(v:Value)(n:Nat)(xs:List Value)(aw:w.ownsRow base e size v n xs)(hs:a.eval s=v)(C:Array Value)
 (hx:a.eval x= .slice (some ⟨w.heap.size,0,none⟩) 1 1)(hC:C.size=size)(h1:∀u∈C.toList,u.oneCell'=true)
 (kh:n+1<=maxLen)(iQ:(n+1)*bytes<=140737488355328)(jG:base<=w.heap.size)
 (hK:∀v' w',w'.ownsRow base e size v' (n+1) (xs++C.toList)->Below base w w'->K (a.put o.dst v') w'):Oper.wp P o a (w.alloc (.cells C e)) K Q:=by
 obtain⟨ht,aG,i,z,hi,hz,lE,nH,lh⟩:=jF
 obtain⟨v',w',jf,r1,r2,r3⟩:=run_append_own (P:=P) (w.alloc (.cells C e)) base t o.type e i z size bytes ht hi hz lE nH lh aG v n xs (aw.alloc _) ⟨w.heap.size,0,none⟩ 1 1 C.toList (by simp[hC]) (λ j u hj=>by
  rw[lD,zF];simpa using hj) h1 kh iQ (by simp;omega)
 unfold Oper.wp;simp[execOp,ho,resolve,invoke,builtin,hs,hx,jf,Result.andThen];exact hK v' w' r1 (((aB _ _).alloc jG _).grown r2 (by simp;omega) λ k hk=>(aw.lt k hk).1)
structure zD (w wr:World)(g q6 B2:Nat)(id:Int)(sa:ByteArray)(n bs raw:Int)(ro ta:ByteArray)(ss:List ByteArray)(v:Value)(j:Nat):Prop where
 res:Bk wr g 29 #[.int .i64 0,.string ⟨#[]⟩,.int .i64 0,.int .i64 0,.int .i64 0,.string ⟨#[]⟩,.string ⟨#[]⟩,.slice none 0 0]
 rJ:Bk wr q6 29 #[.int .i64 id,.string sa,.int .i64 n,.int .i64 bs,.int .i64 raw,.string ro,.string ta,v]
 own:wr.ownsRow B2 9 1 v j (cO (ss.take j))
 b:Below g w wr
 lt:g<q6/\q6<B2/\B2<=wr.heap.size
theorem zD.below {w wr w':World}{g q6 B2:Nat}{id:Int}{sa:ByteArray}{n bs raw:Int}{ro ta:ByteArray}{ss:List ByteArray}{v:Value}{j:Nat}(h:zD w wr g q6 B2 id sa n bs raw ro ta ss v j)(hb:Below wr.heap.size wr w'):zD w w' g q6 B2 id sa n bs raw ro ta ss v j:=
 ⟨h.res.aL hb,h.rJ.aL hb,kL h.own hb,h.b.trans (hb.mono (by have:=h.lt;omega)),by have:=h.lt;have:=hb.size;omega⟩
theorem zD.put {w wr w':World}{g q6 B2:Nat}{id:Int}{sa:ByteArray}{n bs raw:Int}{ro ta:ByteArray}{ss:List ByteArray}{v v':Value}{j:Nat}{s:ByteArray}(h:zD w wr g q6 B2 id sa n bs raw ro ta ss v j)(aw:w'.ownsRow B2 9 1 v' (j+1) (cO (ss.take j)++[.string s]))(hb:Below B2 wr w')(hs:ss.take j++[s]=ss.take (j+1)):
 zD w (w'.setCell ⟨q6,7,none⟩ v') g q6 B2 id sa n bs raw ro ta ss v' (j+1):=by
 obtain⟨l1,l2,l3⟩:=h.lt;refine⟨Bk.far (h.res.below hb aa) (p:=⟨q6,7,none⟩) (show g≠q6 by omega) _,(h.rJ.below hb l2).aP 7 v',?_,(h.b.trans (hb.mono aa)).setCell (p:=⟨q6,7,none⟩) (show g<=q6 by omega) _,⟨l1,l2,by have:=hb.size;simp[World.setCell];omega⟩⟩;rw[<-hs,<-N3]
 exact aw.kept (row:=some q6) (aY w' q6 7 v') (by
  by_cases hv:v'.ownBlock=none
  ·exact Or.inl hv
  ·refine Or.inr λ e=>?_;have:=(aw.lt q6 e).1;omega)
def aso (w:World)(id:Int)(sa:ByteArray)(n bs raw:Int)(ro ta:ByteArray)(ss:List ByteArray)(k:Nat)(e:Ending)(w':World):Prop:=
 ∃A c,e= .returned (.tuple #[wk id sa n bs raw ro ta A k c,.int .i64 0])/\k<=c/\c<=maxLen/\Rd w' A (cO ss)/\Below w.heap.size w w'
theorem asp (s:ByteArray)(id:Int)(sa:ByteArray)(bs raw:Int)(ro ta:ByteArray)(ss:List ByteArray)(k:Nat)(bq:fU id sa (k:Nat) bs raw ro ta=true)(hk:ss.length=k)(xn:k<=1000)(UC:∀s∈ss,s.size=224)(hs:s=Kt id sa (k:Nat) bs raw ro ta ss)(w:World):
 Calls Tryz.prog 10 #[.string s] w (aso w id sa (k:Nat) bs raw ro ta ss k):=by
 have aG:(kT id sa (k:Nat) bs raw ro ta).size=98:=by
  have h:=fZ bq;unfold kT;rw[pB,F0];omega
 have aV:=UB ss UC;have my:=ae (λ w'=>Ya (kT id sa (k:Nat) bs raw ro ta) id sa (k:Nat) bs raw ro ta bq (by unfold kT nZ;simp only[CE,cn,aN];rw[show(⟨#[83,76,71,49]⟩:ByteArray).toList=[83,76,71,49]from cn _]) w');unfold Kt at hs;generalize kT id sa (k:Nat) bs raw ro ta=H at*;have jJ:s.toList=H.toList++oH ss:=by rw[hs,CE,cn]
 have e1:s.extract 0 98=H:=ma (by rw[rW,jJ];exact te (by rw[aD,aG]));obtain⟨C,hC⟩:∃C,s.extract 98 s.size=C:=⟨_,rfl⟩;have UD:C.toList=oH ss:=by rw[<-hC,tg,jJ];exact List.drop_left' (by rw[aD,aG])
 have Dt:C.size=224*k:=by rw[<-aD,UD,aV,hk]
 have asq:s.size=98+224*k:=by rw[<-aD,jJ,ag,aD,aG,aV,hk]
 have n1:¬(s.size:Int)<98:=aa;have n2:(98:Int)<=(s.size:Int):=aa;have n3:((C.size:Int) !=(k:Int)*224)=false:=by rw[Dt];simp;omega
 have gD:=ae (af UD Dt);have dt:=ae (af hk UC);have ej:=sP w (.cells #[.int .i64 0,.string ⟨#[]⟩,.int .i64 0,.int .i64 0,.int .i64 0,.string ⟨#[]⟩,.string ⟨#[]⟩,.slice none 0 0] 29);have jv:=ae (af ej (Bk.new w 29 #[.int .i64 0,.string ⟨#[]⟩,.int .i64 0,.int .i64 0,.int .i64 0,.string ⟨#[]⟩,.string ⟨#[]⟩,.slice none 0 0]));clear aG aV hs jJ UD Dt asq ej bq hk UC;go_enter Tryz.func10,Tryz.ntmps10;go_upto_region 1 with fail;generalize w.alloc (.cells #[.int .i64 0,.string ⟨#[]⟩,.int .i64 0,.int .i64 0,.int .i64 0,.string ⟨#[]⟩,.string ⟨#[]⟩,.slice none 0 0] 29)=w0 at*;generalize hg:w.heap.size=g at*;go_wp2_with fail;(refine(my.out w0).mono ?_);rintro e w1 ⟨rfl,au⟩;have H1:=ae (af (jv.out.1.trans (au.mono (by rw[<-hg];exact jv.out.1.size))) (jv.out.2.aL au));clear au jv my;go_upto_region 9 with fail;have o9:Below w1.heap.size w1 ((w1.alloc (.cells #[.int .i64 id,.string sa,.int .i64 (k:Nat),.int .i64 bs,.int .i64 raw,.string ro,.string ta] 26)).alloc (.cells #[.int .i64 id,.string sa,.int .i64 (k:Nat),.int .i64 bs,.int .i64 raw,.string ro,.string ta,.slice none 0 0] 29)):=(sP w1 _).trans ((sP _ _).mono aj);have wC:=Bk.new (w1.alloc (.cells #[.int .i64 id,.string sa,.int .i64 (k:Nat),.int .i64 bs,.int .i64 raw,.string ro,.string ta] 26)) 29 #[.int .i64 id,.string sa,.int .i64 (k:Nat),.int .i64 bs,.int .i64 raw,.string ro,.string ta,.slice none 0 0];rw[show(w1.alloc (.cells #[.int .i64 id,.string sa,.int .i64 (k:Nat),.int .i64 bs,.int .i64 raw,.string ro,.string ta] 26)).heap.size=w1.heap.size+1 by simp]at wC;have asr:((w1.alloc (.cells #[.int .i64 id,.string sa,.int .i64 (k:Nat),.int .i64 bs,.int .i64 raw,.string ro,.string ta] 26)).alloc (.cells #[.int .i64 id,.string sa,.int .i64 (k:Nat),.int .i64 bs,.int .i64 raw,.string ro,.string ta,.slice none 0 0] 29)).heap.size=w1.heap.size+2:=aj;have zA:g<w1.heap.size:=H1.out.2.lt;have H2:Hid (zD w ((w1.alloc (.cells #[.int .i64 id,.string sa,.int .i64 (k:Nat),.int .i64 bs,.int .i64 raw,.string ro,.string ta] 26)).alloc (.cells #[.int .i64 id,.string sa,.int .i64 (k:Nat),.int .i64 bs,.int .i64 raw,.string ro,.string ta,.slice none 0 0] 29)) g (w1.heap.size+1) (w1.heap.size+2) id sa (k:Nat) bs raw ro ta ss (.slice none 0 0) 0):=ae ⟨H1.out.2.aL o9,wC,jD _ _ _ _,H1.out.1.trans (o9.mono (Nat.le_of_lt zA)),aa,aa,aa⟩;go_wp2_with fail;clear o9 wC asr H1;generalize(w1.alloc (.cells #[.int .i64 id,.string sa,.int .i64 (k:Nat),.int .i64 bs,.int .i64 raw,.string ro,.string ta] 26)).alloc (.cells #[.int .i64 id,.string sa,.int .i64 (k:Nat),.int .i64 bs,.int .i64 raw,.string ro,.string ta,.slice none 0 0] 29)=w2 at*;generalize cC:w1.heap.size+2=B2 at*;generalize wC:w1.heap.size+1=q6 at*;clear cC wC;go_loopw [0] (λ v0 wr=>∃(j:Nat) (t:ByteArray),v0= .string t/\j<=k/\Hid (t.toList=oH (ss.drop j))/\Hid (∃v,zD w wr g q6 B2 id sa (k:Nat) bs raw ro ta ss v j)) (λ v0 _=>match v0 with| .string t=>t.size|_=>0)
 case atStart=>exact⟨0,C,rfl,aa,ae (by rw[gD.out.1];rfl),ae ⟨_,H2.out⟩⟩
 case round=>
  clear H2;obtain⟨wp,rfl⟩:∃wp,wp=wr:=⟨_,rfl⟩;obtain⟨j,t,rfl,hj,HT,HX⟩:=hrel;obtain⟨v,hX⟩:=HX.out;have gG:=ae hX;clear hX HX;by_cases ao:j<k
  ·obtain⟨x,hx⟩:∃x,ss[j]? =some x:=⟨_,aZ (by rw[dt.out.1];exact ao)⟩;have eB:x.size=224:=dt.out.2 x (du hx)
   have hd:ss.drop j=x::ss.drop (j+1):=by
    rw[qj (by rw[dt.out.1];exact ao)];congr 1;rw[aZ (by rw[dt.out.1];exact ao)]at hx
    cases hx;rfl
   have eL:t.toList=x.toList++oH (ss.drop (j+1)):=by rw[HT.out,hd];rfl
   have tC:224<=t.size:=by rw[<-aD,eL,ag,aD,eB];omega
   have e2:t.extract 0 224=x:=ma (by rw[rW,eL];exact te (by rw[aD,eB]));obtain⟨t2,e3⟩:∃t2,t.extract 224 t.size=t2:=⟨_,rfl⟩;have jX:Hid (t2.toList=oH (ss.drop (j+1))):=ae (by rw[<-e3,tg,eL];exact List.drop_left' (by rw[aD,eB]));have zm:=ae (show t2.size<t.size by rw[<-aD,jX.out,<-aD t,eL,ag,aD,eB];omega);have Km:t.toList.isEmpty=false:=by rw[eL];cases h:x.toList with|nil=>have:=aD x;rw[h,eB]at this;simp at this|cons=>rfl
   have wR:¬t.toList=[]:=by intro h;rw[h]at Km;cases Km
   have n5:(224:Int)<=(t.size:Int):=aa;have Gq:=ae (show ss.take j++[x]=ss.take (j+1)by rw[eu,hx];rfl);have sZ:=ae (gG.out.below ((aB wp.heap.size wp).drew));have hT:wp.drew.cell? ⟨q6,7,none⟩=some v:=gG.out.rJ.cell_ 7 _ rfl;clear hx eB hd eL tC gG;go_upto_region 12 with fail;refine Qh (T:=λ w'=>w'.cell? ⟨q6,7,none⟩=some v) (k:=7) ah ?_;refine cZ (i:=0) (v:=?_) rfl ah ah ah (λ _ _ _ h=>h) aA (by rfl) ?_ (λ _=>hT) ?_;rotate_left
   ·intro w';go_simp;(try with_reducible rfl)
   try simp only[Act.put,bP,bL,bN]
   refine AA (i:=1) (v:=?_) rfl ah ah ah (λ _ _ _ h=>h) aA (by rfl) ?_ hT (by rfl) ah ?_;rotate_left
   ·intro w' qe;(try dsimp only at qe);go_simp;(try with_reducible rfl)
   try simp only[Act.put,bP,bL,bN]
   refine cZ (i:=2) (v:=?_) rfl ah ah ah (λ _ _ _ h=>h) aA (by rfl) ?_ (λ _=>hT) ?_;rotate_left
   ·intro w';go_simp;(try with_reducible rfl)
   try simp only[Act.put,bP,bL,bN]
   refine cZ (i:=3) (v:=?_) rfl ah ah ah (λ _ _ _ h=>h) aA (by rfl) ?_ (λ _=>hT) ?_;rotate_left
   ·intro w';go_simp;(try with_reducible rfl)
   try simp only[Act.put,bP,bL,bN]
   refine uO (i:=4) rfl ah (by rfl) (λ K hK=>?_);go_simp;have UE:=(sP wp.drew (.cells #[.string x] 9)).cell (cQ wp.drew _ hT)|>.trans hT;refine hK.out _ _ (λ _=>UE) ?_;clear hT;have hT:=UE;clear UE;clear hK K;try simp only[Act.put,bP,bL,bN]
   refine uO (i:=5) rfl ah (by rfl) (λ K hK=>?_);refine asn (w:=wp.drew) _ _ 27 rfl B2 9 1 16 N2 v j _ sZ.out.own rfl #[.string x] rfl rfl (by intro u hu;simp at hu;subst hu;rfl) (by unfold maxLen;omega) aa sZ.out.lt.2.2 ?_;intro v4 w6 vG b9;obtain⟨A6,c6,Uw,_,_,_⟩:=JW (Sl.own vG);subst Uw;have UF:=sZ.out.rJ.below b9 sZ.out.lt.2.1;have Ei:w6.cell? ⟨q6,7,none⟩=some v:=UF.cell_ 7 v rfl;have H6:=ae (af vG (af b9 UF));refine hK.out _ _ (λ _=>Ei) ?_;clear hT vG b9 UF;have hT:=Ei;clear Ei;clear hK K;try simp only[Act.put,bP,bL,bN]
   refine cZ (i:=6) (v:=?_) rfl ah ah ah (λ _ _ _ h=>h) aA (by rfl) ?_ (λ _=>hT) ?_;rotate_left
   ·intro w';go_simp;(try with_reducible rfl)
   try simp only[Act.put,bP,bL,bN]
   refine uO (i:=7) rfl ah (by rfl) (λ K hK=>?_);have f7:=Bk.frozen H6.out.2.2 7;go_simp;refine hK.out _ _ (λ h=>by cases h) ?_;clear f7 hT;clear hK K;try simp only[Act.put,bP,bL,bN]
   refine Qg ah ?_ _;have DE:Hid (zD w (w6.setCell ⟨q6,7,none⟩ (.slice A6 (j+1) c6)) g q6 B2 id sa (k:Nat) bs raw ro ta ss (.slice A6 (j+1) c6) (j+1)):=ae (sZ.out.put H6.out.1 H6.out.2.1 Gq.out);go_wp2_with fail;go_roundw
   case rel=>exact⟨j+1,t2,rfl,aa,jX,ae ⟨_,DE.out⟩⟩
   case measure=>exact zm.out
  ·obtain rfl:j=k:=aa;have afc:t.toList=[]:=by rw[HT.out,rU (by rw[dt.out.1];exact ai _)];rfl
   have Km:t.toList.isEmpty=true:=by rw[afc];rfl
   have aw:=gG.out.own;rw[bQ (by rw[dt.out.1];exact ai _)]at aw;obtain⟨A2,c2,hv,jT,fj,cH⟩:=JW (Sl.own aw);subst hv;have sC:=ae (af jT (af fj cH));have Uy:=ae (show th g A2 (cO ss)from λ _ ad hA=>by subst hA;have h1:=(aw.lt _ rfl).1;have h2:=gG.out.lt;omega);have Kr:=ae gG.out.rJ;have Ks:=ae gG.out.res;have gq:=ae gG.out.b;clear afc aw jT fj cH gG;go_wp2_with (first|(refine qk rfl 29 _ rfl q6 rfl 29 #[.int .i64 id,.string sa,.int .i64 (j:Nat),.int .i64 bs,.int .i64 raw,.string ro,.string ta,.slice A2 j c2] (0,0) _ Kr.out Tryz.underlying29 rfl Cf ?_)|(refine nG rfl 29 _ _ rfl g #[.int .i64 id,.string sa,.int .i64 (j:Nat),.int .i64 bs,.int .i64 raw,.string ro,.string ta,.slice A2 j c2] rfl rfl 29 _ Ks.out Cf rfl (Td _ _ _ _ _ _ _ _ _ _) ?_));refine eX (MP Tryz.results10 _ _ g 29 #[.int .i64 id,.string sa,.int .i64 (j:Nat),.int .i64 bs,.int .i64 raw,.string ro,.string ta,.slice A2 j c2] (0,0) _ _ rfl rfl (kd wp g _ _ 29 (0,0) Ks.out) Tryz.underlying29 rfl Cf) rfl ⟨A2,c2,rfl,sC.out.1,sC.out.2.1,Rd.only sC.out.2.2 (Te wp g _) Uy.out,by rw[hg];exact below_setRow gq.out (ai _) _⟩
