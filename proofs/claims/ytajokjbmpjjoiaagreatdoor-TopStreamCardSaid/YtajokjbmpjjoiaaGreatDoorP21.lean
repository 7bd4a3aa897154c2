import Derived.Test.YtajokjbmpjjoiaaGreatDoorP11
import Derived.Deep.Cut
import Derived.Deep.OwnRows
import Derived.Deep.RegionHeld3
set_option maxRecDepth 20000
set_option maxHeartbeats 0
namespace Go.Proofs.YtajokjbmpjjoiaaGreatDoor
section
open Go.RowKit
def nZ (id:Int)(sa:ByteArray)(n bs raw:Int)(ro:ByteArray):ByteArray:=⟨#[83,76,71,49]⟩++av (be id 4)++sa++av (be n 2)++av (be bs 4)++av (be raw 4)++ro
theorem anI (n:Int)(w:World):Calls Tryz.prog 87 #[.int .i64 n,.int .i64 4] w λ e w'=>e= .returned (.string (av (be n 4)))/\Below w.heap.size w w':=Fg n 4 w
theorem anJ (n:Int)(w:World):Calls Tryz.prog 87 #[.int .i64 n,.int .i64 2] w λ e w'=>e= .returned (.string (av (be n 2)))/\Below w.heap.size w w':=Fg n 2 w
theorem FY (n:Int):(av (be n 4)).size=4:=by rw[cV,jH]
theorem aaX (n:Int):(av (be n 2)).size=2:=by rw[cV,jH]
def Bx (w:World)(g:Nat)(t:TypeId)(id:Int)(sa:ByteArray)(n bs raw:Int)(ro ta:ByteArray):Prop:=Bk w g t #[.int .i64 id,.string sa,.int .i64 n,.int .i64 bs,.int .i64 raw,.string ro,.string ta]
theorem Bx.cells {w:World}{g:Nat}{t:TypeId}{id:Int}{sa:ByteArray}{n bs raw:Int}{ro ta:ByteArray}(h:Bx w g t id sa n bs raw ro ta):
 w.cell? ⟨g,0,none⟩=some (.int .i64 id)/\w.cell? ⟨g,1,none⟩=some (.string sa)/\w.cell? ⟨g,2,none⟩=some (.int .i64 n)/\w.cell? ⟨g,3,none⟩=some (.int .i64 bs)/\w.cell? ⟨g,4,none⟩=some (.int .i64 raw)/\w.cell? ⟨g,5,none⟩=some (.string ro)/\w.cell? ⟨g,6,none⟩=some (.string ta):=
 ⟨Bk.cell h 0,Bk.cell h 1,Bk.cell h 2,Bk.cell h 3,Bk.cell h 4,Bk.cell h 5,Bk.cell h 6⟩
theorem Ns {wr w w1:World}(hb:Below w.heap.size w w1){a0 a1 a2 a3 a4 a5 a6:Addr}{v0 v1 v2 v3 v4 v5 v6:Value}
 (h:Below wr.heap.size wr w/\w.cell? a0=some v0/\w.cell? a1=some v1/\w.cell? a2=some v2/\w.cell? a3=some v3/\w.cell? a4=some v4/\w.cell? a5=some v5/\w.cell? a6=some v6):
 Below wr.heap.size wr w1/\w1.cell? a0=some v0/\w1.cell? a1=some v1/\w1.cell? a2=some v2/\w1.cell? a3=some v3/\w1.cell? a4=some v4/\w1.cell? a5=some v5/\w1.cell? a6=some v6:=by
 have k:∀{a:Addr} {v:Value},w.cell? a=some v->w1.cell? a=some v:=λ h=>(hb.cell (cQ w _ h)).trans h;exact⟨bl h.1 hb,k h.2.1,k h.2.2.1,k h.2.2.2.1,k h.2.2.2.2.1,k h.2.2.2.2.2.1,k h.2.2.2.2.2.2.1,k h.2.2.2.2.2.2.2⟩
theorem Sa (id:Int)(sa:ByteArray)(n bs raw:Int)(ro ta:ByteArray)(w:World)(dH:sa.size<=500)(eI:ro.size<=500):
 Calls Tryz.prog 61 #[uX id sa n bs raw ro ta] w λ e w'=>e= .returned (.string (nZ id sa n bs raw ro))/\Below w.heap.size w w':=by
 have hb:=(aB w.heap.size w).alloc (ai _) (.cells #[.int .i64 id,.string sa,.int .i64 n,.int .i64 bs,.int .i64 raw,.string ro,.string ta] 26);have hH:Bx (w.alloc (.cells #[.int .i64 id,.string sa,.int .i64 n,.int .i64 bs,.int .i64 raw,.string ro,.string ta] 26)) w.heap.size 26 id sa n bs raw ro ta:=Bk.new _ _ _;unfold uX;have z1:=FY id;have z2:=aaX n;have z3:=FY bs;have z4:=FY raw;have z0:(⟨#[83,76,71,49]⟩:ByteArray).size=4:=rfl;obtain⟨c1,e1⟩:∃c,(⟨#[83,76,71,49]⟩:ByteArray)++av (be id 4)=c:=⟨_,rfl⟩;have k1:c1.size<=8:=by rw[<-e1,pB];omega
 have m1:¬(9223372036854775807<((⟨#[83,76,71,49]⟩:ByteArray)).size+(av (be id 4)).size):=aa;have avn:¬(9223372036854775807<4+(av (be id 4)).size):=aa;obtain⟨c2,e2⟩:∃c,c1++sa=c:=⟨_,rfl⟩;have k2:c2.size<=508:=by rw[<-e2,pB];omega
 have m2:¬(9223372036854775807<(c1).size+(sa).size):=aa;obtain⟨c3,e3⟩:∃c,c2++av (be n 2)=c:=⟨_,rfl⟩;have k3:c3.size<=510:=by rw[<-e3,pB];omega
 have m3:¬(9223372036854775807<(c2).size+(av (be n 2)).size):=aa;obtain⟨c4,e4⟩:∃c,c3++av (be bs 4)=c:=⟨_,rfl⟩;have k4:c4.size<=514:=by rw[<-e4,pB];omega
 have m4:¬(9223372036854775807<(c3).size+(av (be bs 4)).size):=aa;obtain⟨c5,e5⟩:∃c,c4++av (be raw 4)=c:=⟨_,rfl⟩;have k5:c5.size<=518:=by rw[<-e5,pB];omega
 have m5:¬(9223372036854775807<(c4).size+(av (be raw 4)).size):=aa;obtain⟨c6,e6⟩:∃c,c5++ro=c:=⟨_,rfl⟩;have k6:c6.size<=1018:=by rw[<-e6,pB];omega
 have m6:¬(9223372036854775807<(c5).size+(ro).size):=aa;have E:=ae (show nZ id sa n bs raw ro=c6 by unfold nZ;rw[e1,e2,e3,e4,e5,e6]);clear z0 z1 z2 z3 z4 k1 k2 k3 k4 k5 k6 dH eI;go_enter Tryz.func61,Tryz.ntmps61;go_upto_region 1 with(fail);generalize w.alloc (.cells #[.int .i64 id,.string sa,.int .i64 n,.int .i64 bs,.int .i64 raw,.string ro,.string ta] 26)=w1 at*;obtain⟨lN,cR,bT,mR,Ae,qG,FZ⟩:=hH.cells;have n9:Below w1.heap.size w1 w1.drew/\w1.drew.cell? ⟨w.heap.size,0,none⟩=some (.int .i64 id)/\w1.drew.cell? ⟨w.heap.size,1,none⟩=some (.string sa)/\w1.drew.cell? ⟨w.heap.size,2,none⟩=some (.int .i64 n)/\w1.drew.cell? ⟨w.heap.size,3,none⟩=some (.int .i64 bs)/\w1.drew.cell? ⟨w.heap.size,4,none⟩=some (.int .i64 raw)/\w1.drew.cell? ⟨w.heap.size,5,none⟩=some (.string ro)/\w1.drew.cell? ⟨w.heap.size,6,none⟩=some (.string ta):=⟨(aB _ _).drew,lN,cR,bT,mR,Ae,qG,FZ⟩;clear lN cR bT mR Ae qG FZ
 go_region_held3 (λ w'=>Below w1.heap.size w1 w'/\w'.cell? ⟨w.heap.size,0,none⟩=some (.int .i64 id)/\w'.cell? ⟨w.heap.size,1,none⟩=some (.string sa)/\w'.cell? ⟨w.heap.size,2,none⟩=some (.int .i64 n)/\w'.cell? ⟨w.heap.size,3,none⟩=some (.int .i64 bs)/\w'.cell? ⟨w.heap.size,4,none⟩=some (.int .i64 raw)/\w'.cell? ⟨w.heap.size,5,none⟩=some (.string ro)/\w'.cell? ⟨w.heap.size,6,none⟩=some (.string ta)) (first|exact n9|assumption)
  (first
   |(go_at_call 87;with_reducible refine(anI _ _).mono ?_;rintro e w3 ⟨rfl,aO⟩;have hX:=Ns aO (by assumption))
   |(go_at_call 87;with_reducible refine(anJ _ _).mono ?_;rintro e w3 ⟨rfl,aO⟩;have hX:=Ns aO (by assumption)))
 go_wp2_with fail;go_ret;exact⟨by rw[E.out];rfl,bl hb (And.left (by assumption))⟩
theorem Bx.aL {w w':World}{g:Nat}{t:TypeId}{id:Int}{sa:ByteArray}{n bs raw:Int}{ro ta:ByteArray}(h:Bx w g t id sa n bs raw ro ta)(hb:Below w.heap.size w w'):Bx w' g t id sa n bs raw ro ta:=Bk.aL h hb
theorem Sb {id:Int}{sa:ByteArray}{n bs raw:Int}{ro ta:ByteArray}(h:fU id sa n bs raw ro ta=true):
 1<=id/\id<=4294967295/\sa.size=16/\ro.size=32/\ta.size=32/\1<=bs/\bs<=49152/\n=(bs+191)/192/\1<=raw/\raw<=134217728:=fZ h
theorem F0 (id:Int)(sa:ByteArray)(n bs raw:Int)(ro:ByteArray):(nZ id sa n bs raw ro).size=18+sa.size+ro.size:=by
 have h4:(⟨#[83,76,71,49]⟩:ByteArray).size=4:=rfl;unfold nZ;rw[pB,pB,pB,pB,pB,pB,FY,FY,FY,aaX,h4];omega
def kT (id:Int)(sa:ByteArray)(n bs raw:Int)(ro ta:ByteArray):ByteArray:=nZ id sa n bs raw ro++ta
theorem anK (id:Int)(sa:ByteArray)(n bs raw:Int)(ro ta:ByteArray)(b:Bool)(h:fU id sa n bs raw ro ta=b)(w:World):
 Calls Tryz.prog 78 #[.agg #[.int .i64 id,.string sa,.int .i64 n,.int .i64 bs,.int .i64 raw,.string ro,.string ta]] w λ e w'=>e= .returned (.int .i64 (Me b))/\Below w.heap.size w w':=by subst h;exact Mf id sa n bs raw ro ta w
theorem anL (id:Int)(sa:ByteArray)(n bs raw:Int)(ro ta:ByteArray)(c:ByteArray)(hc:nZ id sa n bs raw ro=c)(dH:sa.size<=500)(eI:ro.size<=500)(w:World):
 Calls Tryz.prog 61 #[.agg #[.int .i64 id,.string sa,.int .i64 n,.int .i64 bs,.int .i64 raw,.string ro,.string ta]] w λ e w'=>e= .returned (.string c)/\Below w.heap.size w w':=by subst hc;exact Sa id sa n bs raw ro ta w dH eI
theorem aaY (id:Int)(sa:ByteArray)(n bs raw:Int)(ro ta:ByteArray)(w:World)(hk:fU id sa n bs raw ro ta=true):
 Calls Tryz.prog 35 #[.agg #[.int .i64 id,.string sa,.int .i64 n,.int .i64 bs,.int .i64 raw,.string ro,.string ta]] w λ e w'=>e= .returned (.tuple #[.string (kT id sa n bs raw ro ta),.int .i64 0])/\Below w.heap.size w w':=by
 have hb:=(aB w.heap.size w).alloc (ai _) (.cells #[.int .i64 id,.string sa,.int .i64 n,.int .i64 bs,.int .i64 raw,.string ro,.string ta] 26);have hH:Bx (w.alloc (.cells #[.int .i64 id,.string sa,.int .i64 n,.int .i64 bs,.int .i64 raw,.string ro,.string ta] 26)) w.heap.size 26 id sa n bs raw ro ta:=Bk.new _ _ _;have HK:=ae hk;have pg:=(Sb hk).2.2.1;have zf:=(Sb hk).2.2.2.1;have qP:=(Sb hk).2.2.2.2.1;obtain⟨c,hc⟩:∃c,nZ id sa n bs raw ro=c:=⟨_,rfl⟩;have hcs:c.size=18+sa.size+ro.size:=by rw[<-hc,F0]
 have hm:¬(9223372036854775807<c.size+ta.size):=aa;have dH:sa.size<=500:=aa;have eI:ro.size<=500:=aa;have HC:=ae hc;have E:=ae (show kT id sa n bs raw ro ta=c++ta by unfold kT;rw[hc]);clear hk pg zf qP hc hcs;go_enter Tryz.func35,Tryz.ntmps35;go_wp2_with fail;with_reducible refine(anK id sa n bs raw ro ta true HK.out _).mono ?_
 rintro e w0 ⟨rfl,gZ⟩;have Fu:=hH.aL gZ;have au:=bl hb gZ;clear hH hb gZ;go_upto_region 4 with(fail);obtain⟨lN,cR,bT,mR,Ae,qG,FZ⟩:=Fu.cells;have n9:Below w0.heap.size w0 w0.drew/\w0.drew.cell? ⟨w.heap.size,0,none⟩=some (.int .i64 id)/\w0.drew.cell? ⟨w.heap.size,1,none⟩=some (.string sa)/\w0.drew.cell? ⟨w.heap.size,2,none⟩=some (.int .i64 n)/\w0.drew.cell? ⟨w.heap.size,3,none⟩=some (.int .i64 bs)/\w0.drew.cell? ⟨w.heap.size,4,none⟩=some (.int .i64 raw)/\w0.drew.cell? ⟨w.heap.size,5,none⟩=some (.string ro)/\w0.drew.cell? ⟨w.heap.size,6,none⟩=some (.string ta):=⟨(aB _ _).drew,lN,cR,bT,mR,Ae,qG,FZ⟩;clear lN cR bT mR Ae qG FZ
 go_region_held3 (λ w'=>Below w0.heap.size w0 w'/\w'.cell? ⟨w.heap.size,0,none⟩=some (.int .i64 id)/\w'.cell? ⟨w.heap.size,1,none⟩=some (.string sa)/\w'.cell? ⟨w.heap.size,2,none⟩=some (.int .i64 n)/\w'.cell? ⟨w.heap.size,3,none⟩=some (.int .i64 bs)/\w'.cell? ⟨w.heap.size,4,none⟩=some (.int .i64 raw)/\w'.cell? ⟨w.heap.size,5,none⟩=some (.string ro)/\w'.cell? ⟨w.heap.size,6,none⟩=some (.string ta)) (first|exact n9|assumption)
  (first|(go_at_call 61;with_reducible refine(anL id sa n bs raw ro ta c HC.out dH eI _).mono ?_;rintro e w3 ⟨rfl,aO⟩;have hX:=Ns aO (by assumption)))
 go_wp2_with fail;go_ret2;exact⟨by rw[E.out];rfl,bl au (And.left (by assumption))⟩
