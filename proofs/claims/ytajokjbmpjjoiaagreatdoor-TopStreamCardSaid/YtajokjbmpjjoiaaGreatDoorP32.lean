import Derived.Test.YtajokjbmpjjoiaaGreatDoorP22
import Derived.Test.YtajokjbmpjjoiaaGreatDoorP25
set_option maxRecDepth 20000
set_option maxHeartbeats 0
set_option linter.unusedSimpArgs false
set_option linter.unusedVariables false
namespace Go.Proofs.YtajokjbmpjjoiaaGreatDoor
section
open Go.RowKit Go.Lib
theorem N2:El Tryz.prog 27 9 1 16:=El.kg (z:=.string ⟨#[]⟩) Tryz.underlying27 ah aA (by rfl)
def ug (s:ByteArray):ByteArray:=av (BF 32 s.toList)
def mJ (ss:List ByteArray):ByteArray:=av (jx 32 (ss.map ug))
theorem ap1 (s:ByteArray):(ug s).size<=1000:=by unfold ug BF;rw[cV];have:=SJ 32 (0::s.toList);omega
theorem Ta (l:List UInt8):(vN 32 l).length=32:=by
 unfold vN;rw[ba,Bt];rfl
theorem ap2 (s:ByteArray):(ug s).size=32:=by unfold ug BF;rw[cV,Ta]
theorem ap3 (ss:List ByteArray)(h:∀s∈ss,s.size=32):(jx 32 ss).length=32:=by
 match ss,h with
 |[],_=>rw[jx];exact Ta _
 |[s],h=>rw[jx,aD];exact h s aj
 |a::b::l,_=>rw[jx];unfold Jf;exact Ta _
theorem Tb (ss:List ByteArray):(mJ ss).size=32:=by
 unfold mJ;rw[cV,ap3];intro s hs;obtain⟨x,_,rfl⟩:=kJ.1 hs;exact ap2 x
theorem N3 (l:List ByteArray)(s:ByteArray):cO l++[Value.string s]=cO (l++[s]):=by unfold cO;rw[ka];rfl
theorem ap4 {α β:Type}(f:α->β)(l:List α)(i:Nat)(x:α)(h:l[i]? =some x):(l.take i).map f++[f x]=(l.take (i+1)).map f:=by
 rw[eu,h,ka];rfl
theorem JW {w:World}{v:Value}{n:Nat}{xs:List Value}(h:Sl w 1 v n xs):∃A c,v= .slice A n c/\n<=c/\c<=maxLen/\Rd w A xs:=h.2
theorem ap5 (ss:List ByteArray)(A:Option Addr)(n c:Nat)(hn:ss.length=n)(fk:n<=1000)(hs:∀s∈ss,s.size<=1000)(w:World)(hr:Rd w A (cO ss)):
 Calls Tryz.prog 25 #[.slice A n c] w λ e w'=>e= .returned (.string (mJ ss))/\Below w.heap.size w w':=by
 have HN:=ae hn;have HR:=ae hr;have HS:=ae hs;obtain⟨B,hB⟩:∃B,w.heap.size=B:=⟨_,rfl⟩;have mK:=ae hB;clear hn hr hs hB;go_enter Tryz.func25,Tryz.ntmps25;go_wp2_with fail;go_loopw [3,8] (λ y3 v8 wr=>∃(v3:Value) (i:Nat),v3=y3/\v8= .int .i64 (i:Nat)/\i<=n/\Hid (wr.ownsRow B 9 1 v3 i (cO ((ss.take i).map ug))/\Below B w wr)) (λ _ v8 _=>n-vnat v8)
 case atStart=>exact⟨_,0,rfl,rfl,aa,ae ⟨jD _ _ _ _,by rw[<-mK.out];exact aB _ _⟩⟩
 case round=>
  obtain⟨v3,i,rfl,rfl,hi,HX⟩:=hrel;by_cases ao:(i:Int)<(n:Int)
  ·obtain⟨s,hs⟩:∃s,ss[i]? =some s:=⟨_,aZ (by rw[HN.out];omega)⟩;have fe:(cO ss)[i]? =some (.string s):=by unfold cO;rw[eH,hs];rfl
   obtain⟨b,o,rfl,hc⟩:=HR.out (by intro e;rw[e]at fe;cases fe);have c0:=hc _ _ fe;have sH:wr.cell? ⟨b,o+i,none⟩=some (.string s):=(HX.out.2.cell (by rw[<-mK.out];exact cQ w _ c0)).trans c0;have HL:Hid (∀w',Calls Tryz.prog 62 #[.int .i64 32,.string s] w' λ e w2=>e= .returned (.string (ug s))/\Below w'.heap.size w' w2):=ae λ w'=>abS 32 s (by have:=HS.out s (du hs);omega) w';have cm:=ae (ap4 ug ss i s hs);obtain⟨t,ht⟩:∃t,ug s=t:=⟨_,rfl⟩;rw[ht]at cm;simp only[ht]at HL;clear hs fe hc c0 ht;go_wp2_with fail;(with_reducible refine(HL.out wr).mono ?_);rintro e w1 ⟨rfl,au⟩;have aw:w1.ownsRow B 9 1 v3 i (cO ((ss.take i).map ug)):=kL HX.out.1 au;have HOW:=ae aw;have cD:=ae (HX.out.2.trans (au.mono (by rw[<-mK.out];exact(mK.out▸HX.out.2).size)));have Tc:=ae (show B<=w1.heap.size from b_ (by rw[<-mK.out];exact(mK.out▸HX.out.2).size) au.size);clear au aw HX HL sH;go_wp2_with (at_builtin;go_must (refine lg w1 rfl (.tmp 12) (.tmp 15) 27 rfl B 9 1 16 N2 v3 i _ HOW.out rfl #[.string t] rfl rfl (by intro u hu;simp at hu;subst hu;rfl) (by unfold maxLen;omega) aa Tc.out ?_);intro v4 w2 dk aC;have mr:=ae (af dk (cD.out.trans aC));clear dk aC);go_roundw
   case rel=>exact⟨_,i+1,rfl,by first|rfl|go_num,aa,ae ⟨by rw[<-cm.out,<-N3];exact mr.out.1,mr.out.2⟩⟩
   case measure=>simp[vnat];omega
  ·obtain rfl:i=n:=aa;have aw:=HX.out.1;rw[bQ (by rw[HN.out];omega)]at aw;obtain⟨A2,c2,rfl,cR,bT,cH⟩:=JW (Sl.own aw)
   have xC:Hid (Calls Tryz.prog 63 #[.int .i64 32,.slice A2 i c2] wr λ e w2=>e= .returned (.string (mJ ss))/\Below wr.heap.size wr w2):=ae (aoZ 32 i (ss.map ug) A2 i c2 (by rw[eG];exact HN.out) aa aa cR (by unfold maxLen at bT;omega) (λ s h=>by
    obtain⟨x,_,rfl⟩:=kJ.1 h;exact ap1 x) wr cH)
   have N4:=ae HX.out.2;clear aw cR bT cH HX;go_wp2_with fail;(with_reducible refine xC.out.mono ?_);rintro e w1 ⟨rfl,au⟩;have cD:=ae (N4.out.trans (au.mono (by rw[<-mK.out];exact(mK.out▸N4.out).size)));clear au;go_wp2_with fail;go_ret;exact⟨rfl,by rw[mK.out];exact cD.out⟩
theorem Cf:(Tryz.prog.info? 29).map (·.size)=some 8:=ah
theorem Td (id:Int)(sa:ByteArray)(n bs raw:Int)(ro ta:ByteArray)(A:Option Addr)(k c:Nat):((#[.int .i64 id,.string sa,.int .i64 n,.int .i64 bs,.int .i64 raw,.string ro,.string ta,.slice A k c]:Array Value).all λ x=>x.oneCell')=true:=ah
theorem Te (w:World)(g:Nat)(cs:Array Value):w.grownBy (w.setRow g cs) (some g):=
 ⟨rfl,rfl,rfl,aj,λ k _ aS=>setRow_other w g k _ (λ e=>aS (by rw[e]))⟩
def wk (id:Int)(sa:ByteArray)(n bs raw:Int)(ro ta:ByteArray)(A:Option Addr)(k c:Nat):Value:=.agg #[.int .i64 id,.string sa,.int .i64 n,.int .i64 bs,.int .i64 raw,.string ro,.string ta,.slice A k c]
def pk (w:World)(g:Nat)(id:Int)(sa:ByteArray)(n bs raw:Int)(ro ta:ByteArray)(A:Option Addr)(k c:Nat):Prop:=Bk w g 29 #[.int .i64 id,.string sa,.int .i64 n,.int .i64 bs,.int .i64 raw,.string ro,.string ta,.slice A k c]
theorem pk.cells {w:World}{g:Nat}{id:Int}{sa:ByteArray}{n bs raw:Int}{ro ta:ByteArray}{A:Option Addr}{k c:Nat}(h:pk w g id sa n bs raw ro ta A k c):
 w.cell? ⟨g,0,none⟩=some (.int .i64 id)/\w.cell? ⟨g,1,none⟩=some (.string sa)/\w.cell? ⟨g,2,none⟩=some (.int .i64 n)/\w.cell? ⟨g,3,none⟩=some (.int .i64 bs)/\w.cell? ⟨g,4,none⟩=some (.int .i64 raw)/\w.cell? ⟨g,5,none⟩=some (.string ro)/\w.cell? ⟨g,6,none⟩=some (.string ta)/\w.cell? ⟨g,7,none⟩=some (.slice A k c):=
 ⟨Bk.cell h 0,Bk.cell h 1,Bk.cell h 2,Bk.cell h 3,Bk.cell h 4,Bk.cell h 5,Bk.cell h 6,Bk.cell h 7⟩
theorem ap6 (id:Int)(sa:ByteArray)(bs raw:Int)(ro ta:ByteArray)(ss:List ByteArray)(A:Option Addr)(k c:Nat)(hk:ss.length=k)(xn:k<=1000)(hs:∀s∈ss,s.size=224)(w:World)(hr:Rd w A (cO ss)):
 Calls Tryz.prog 36 #[wk id sa (k:Nat) bs raw ro ta A k c] w λ e w'=>e= .returned (.int .i64 0)/\Below w.heap.size w w':=by
 have hb:=sP w (.cells #[.int .i64 id,.string sa,.int .i64 (k:Nat),.int .i64 bs,.int .i64 raw,.string ro,.string ta,.slice A k c] 29);have hA:pk (w.alloc (.cells #[.int .i64 id,.string sa,.int .i64 (k:Nat),.int .i64 bs,.int .i64 raw,.string ro,.string ta,.slice A k c] 29)) w.heap.size id sa (k:Nat) bs raw ro ta A k c:=Bk.new _ _ _;have HR:=ae (hr.below hb);have HN:=ae hk;have HS:=ae hs;have HB:=ae hb;have HA:=ae hA;unfold wk;clear hk hs hr hb hA;go_enter Tryz.func36,Tryz.ntmps36;go_upto_region 1 with fail;generalize w.alloc (.cells #[.int .i64 id,.string sa,.int .i64 (k:Nat),.int .i64 bs,.int .i64 raw,.string ro,.string ta,.slice A k c] 29)=w1 at*;generalize hg:w.heap.size=g at*;obtain⟨c0,c1,c2,c3,c4,c5,c6,c7⟩:=HA.out.cells;go_wp2_with fail;go_loop [15] (λ Tf=>∃i:Nat,Tf= .int .i64 (i:Nat)/\i<=k) (λ Tf=>k-vnat Tf)
 case atStart=>exact⟨0,rfl,aa⟩
 case round=>
  obtain⟨i,rfl,hi⟩:=hrel;by_cases ao:(i:Int)<(k:Int)
  ·obtain⟨s,hs⟩:∃s,ss[i]? =some s:=⟨_,aZ (by rw[HN.out];omega)⟩;have fe:(cO ss)[i]? =some (.string s):=by unfold cO;rw[eH,hs];rfl
   obtain⟨b,o,rfl,hc⟩:=HR.out (by intro e;rw[e]at fe;cases fe);have cc:=hc _ _ fe;have ap7:((s.size:Int) !=224)=false:=by rw[HS.out s (du hs)];rfl
   clear hs fe hc;go_wp2_with fail;go_round
   case rel=>exact⟨i+1,by first|rfl|go_num,aa⟩
   case measure=>simp[vnat];omega
  ·obtain rfl:i=k:=aa;go_wp2_with fail;go_ret;exact⟨rfl,HB.out⟩
theorem ap8 (id:Int)(sa:ByteArray)(n bs raw:Int)(ro ta:ByteArray)(ss:List ByteArray)(A1 A2:Option Addr)(k d1 d2:Nat)(hk:ss.length=k)(xn:k<=1000)(w:World)(gN:Rd w A1 (cO ss))(cH:Rd w A2 (cO ss)):
 Calls Tryz.prog 11 #[wk id sa n bs raw ro ta A1 k d1,wk id sa n bs raw ro ta A2 k d2] w λ e w'=>e= .returned (.bool true)/\Below w.heap.size w w':=by
 have gZ:=sP w (.cells #[.int .i64 id,.string sa,.int .i64 n,.int .i64 bs,.int .i64 raw,.string ro,.string ta,.slice A1 k d1] 29);have au:=sP (w.alloc (.cells #[.int .i64 id,.string sa,.int .i64 n,.int .i64 bs,.int .i64 raw,.string ro,.string ta,.slice A1 k d1] 29)) (.cells #[.int .i64 id,.string sa,.int .i64 n,.int .i64 bs,.int .i64 raw,.string ro,.string ta,.slice A2 k d2] 29);have hA:pk ((w.alloc (.cells #[.int .i64 id,.string sa,.int .i64 n,.int .i64 bs,.int .i64 raw,.string ro,.string ta,.slice A1 k d1] 29)).alloc (.cells #[.int .i64 id,.string sa,.int .i64 n,.int .i64 bs,.int .i64 raw,.string ro,.string ta,.slice A2 k d2] 29)) w.heap.size id sa n bs raw ro ta A1 k d1:=(Bk.new w _ _).alloc _
 have lq:pk ((w.alloc (.cells #[.int .i64 id,.string sa,.int .i64 n,.int .i64 bs,.int .i64 raw,.string ro,.string ta,.slice A1 k d1] 29)).alloc (.cells #[.int .i64 id,.string sa,.int .i64 n,.int .i64 bs,.int .i64 raw,.string ro,.string ta,.slice A2 k d2] 29)) (w.heap.size+1) id sa n bs raw ro ta A2 k d2:=by
  have:=Bk.new (w.alloc (.cells #[.int .i64 id,.string sa,.int .i64 n,.int .i64 bs,.int .i64 raw,.string ro,.string ta,.slice A1 k d1] 29)) 29 #[.int .i64 id,.string sa,.int .i64 n,.int .i64 bs,.int .i64 raw,.string ro,.string ta,.slice A2 k d2];simpa[pk]using this
 have iu:=ae ((gN.below gZ).below au);have iN:=ae ((cH.below gZ).below au);have HN:=ae hk;have HB:=ae (bl gZ au);have HA:=ae (af hA lq);unfold wk;clear hk gN cH gZ au hA lq;go_enter Tryz.func11,Tryz.ntmps11;go_upto_region 1 with fail;generalize(w.alloc (.cells #[.int .i64 id,.string sa,.int .i64 n,.int .i64 bs,.int .i64 raw,.string ro,.string ta,.slice A1 k d1] 29)).alloc (.cells #[.int .i64 id,.string sa,.int .i64 n,.int .i64 bs,.int .i64 raw,.string ro,.string ta,.slice A2 k d2] 29)=w1 at*;generalize hg:w.heap.size=g at*;obtain⟨c0,c1,c2,c3,c4,c5,c6,c7⟩:=HA.out.1.cells;obtain⟨e0,e1,e2,e3,e4,e5,e6,e7⟩:=HA.out.2.cells;go_wp2_with fail;go_loop [24] (λ v=>∃i:Nat,v= .int .i64 (i:Nat)/\i<=k) (λ v=>k-vnat v)
 case atStart=>exact⟨0,rfl,aa⟩
 case round=>
  obtain⟨i,rfl,hi⟩:=hrel;by_cases ao:(i:Int)<(k:Int)
  ·obtain⟨s,hs⟩:∃s,ss[i]? =some s:=⟨_,aZ (by rw[HN.out];omega)⟩;have fe:(cO ss)[i]? =some (.string s):=by unfold cO;rw[eH,hs];rfl
   obtain⟨b,o,rfl,hc⟩:=iu.out (by intro e;rw[e]at fe;cases fe);obtain⟨b2,o2,rfl,bT⟩:=iN.out (by intro e;rw[e]at fe;cases fe);have cc:=hc _ _ fe;have avR:=bT _ _ fe;clear hs fe hc bT;go_wp2_with fail;go_round
   case rel=>exact⟨i+1,by first|rfl|go_num,aa⟩
   case measure=>simp[vnat];omega
  ·obtain rfl:i=k:=aa;go_wp2_with fail;go_ret;exact⟨rfl,HB.out⟩
