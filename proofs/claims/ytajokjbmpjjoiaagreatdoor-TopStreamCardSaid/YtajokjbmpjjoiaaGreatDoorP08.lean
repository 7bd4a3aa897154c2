import Derived.Test.YtajokjbmpjjoiaaGreatDoorP07
import Derived.ChangeSame
import Derived.Deep.Fields
import Derived.Deep.Slices
set_option maxRecDepth 20000
set_option maxHeartbeats 0
set_option linter.unusedVariables false
namespace Go.Proofs.YtajokjbmpjjoiaaGreatDoor
section
open Go.ChangeShapes Go.WideShapes Go.ChangeAt Go.RowKit Go.Deep
theorem XB:Tryz.prog.cellsOf 53=2:=ah
theorem aja:Tryz.prog.cellsOf 9=1:=ah
theorem ajb {α:Type}{l:List α}(h:l.length=2):∃a b,l=[a,b]:=by
 match l,h with
 |[a,b],_=>exact⟨a,b,rfl⟩
theorem XC {α:Type}{xs:List α}{n i:Nat}(h:xs.length=n)(hi:i<n):∃y,xs[i]? =some y:=⟨xs[i]'aa,aZ aa⟩
section
variable {H:Type} {enc:TypeId×Value->H} {w:World} {base:Nat} {sp:Nat->Bool} {held:Bool}
theorem XD {fuel:Nat}{c:Value}{x:DataW H×List MemPlace}(h:DataW.trod enc Tryz.prog w base sp held fuel 9 [c]=some x):∃s,c= .string s:=by
 obtain⟨n,hc,_,_⟩:=DataW.trod_string Tryz.underlying9 h;exact⟨n,by simpa using hc⟩
theorem ajc {fuel:Nat}{l:List Value}{x:DataW H×List MemPlace}(hf:DataW.trod enc Tryz.prog w base sp held fuel 53 l=some x):
 ∃(y:Fl),l=[.string y.1,.string y.2]:=by
 obtain⟨xs,n,_,_,aV,hlen,hg⟩:=DataW.trod_struct Tryz.underlying53 hf;rw[XB]at aV;obtain⟨c0,c1,rfl⟩:=ajb aV;obtain⟨y0,e0⟩:=XC (i:=0) hlen aA;obtain⟨y1,e1⟩:=XC (i:=1) hlen aA;have h0:=hg 0;have h1:=hg 1;simp only[gW,lZ,eF,Es,forall_eq',aja,List.drop_zero,List.drop_succ_cons,uu,mM]at h0 h1;rw[e0]at h0;rw[e1]at h1;obtain⟨p,rfl⟩:=XD h0;obtain⟨d,rfl⟩:=XD h1;exact⟨(p,d),rfl⟩
theorem XE {w:World}{b o:Nat}:∀(n:Nat),(∀i,i<n->∃y:Fl,w.cell? ⟨b,o+i*2,none⟩=some (.string y.1)/\w.cell? ⟨b,o+(i*2+1),none⟩=some (.string y.2))->
 ∃l:List Fl,l.length=n/\∀j u,(fl l)[j]? =some u->w.cell? ⟨b,o+j,none⟩=some u
 |0,_=>⟨[],rfl,λ j u h=>by simp[fl]at h⟩
 |n+1,h=>by
  obtain⟨l,hl,hc⟩:=XE n λ i hi=>h i aa;obtain⟨y,h0,h1⟩:=h n aa;refine⟨l++[y],by simp[hl],λ j u hj=>?_⟩;rw[tJ]at hj;by_cases H_:j<(fl l).length
  ·rw[ux H_]at hj;exact hc j u hj
  ·rw[lf aa]at hj;rw[kQ,hl]at hj H_;obtain⟨k,rfl⟩:∃k,j=n*2+k:=⟨j-n*2,aa⟩;rw[zM]at hj;match k,hj with
   |0,hj=>simp[fl]at hj;rw[<-hj];exact h0
   |1,hj=>simp[fl]at hj;rw[<-hj];exact h1
   |k+2,hj=>simp[fl]at hj
end
section
variable {H:Type} {enc:TypeId×Value->H} {w:World} {b0:Nat} {v:Value} {d:DataW H} {p:List MemPlace} {ts:List TypeId} {ds:List (DataW H)}
theorem ajd (hval:Value.okWide Tryz.prog w .any b0 22 v)(h:DataW.Trod enc Tryz.prog w 0 (λ _=>true) true 22 v d p)(ail:(DataW.weightsEach Tryz.prog ts ds).all (·<=reachBytes)=true)(j:Nat)(aim:ts[j]? =some 22)(ain:ds[j]? =some d):
 ∃(A:Option Addr) (n c:Nat) (l:List Fl),v= .slice A n c/\l.length=n/\n<=c/\c<=9223372036854775807/\Rd w A (fl l):=by
 obtain⟨a0,len,cap,rfl⟩:=okWide_slice Tryz.underlying22 hval;obtain⟨fuel,hf⟩:=h;rcases open_slice Tryz.underlying22 hf with⟨hcs,_⟩|⟨a,aug,Ia,m,n,D,Pl,hcs,_,hl,hm,Da,_,hi⟩
 ·simp[Value.cells]at hcs;obtain⟨rfl,rfl,rfl⟩:=hcs;exact⟨none,0,0,[],rfl,rfl,aa,aa,Rd.nil _ _⟩
 ·simp[Value.cells]at hcs;obtain⟨rfl,rfl,rfl⟩:=hcs;have iG:cap<=9223372036854775807:=hm
  have fP:∀i,i<len->∃y:Fl,w.cell? ((a.add (i*2)).add 0)=some (.string y.1)/\w.cell? ((a.add (i*2)).add 1)=some (.string y.2):=λ i yB=>by
   obtain⟨cs',hc,E'⟩:=hi i (by rw[Da];split<;>omega);rw[XB]at hc;obtain⟨_,aV,qq⟩:=World.cells?_some hc;obtain⟨y,rfl⟩:=ajc E';exact⟨y,qq 0 aA,qq 1 aA⟩
  by_cases h0:len=0
  ·subst h0;exact⟨some a,0,cap,[],rfl,rfl,aa,aa,Rd.nil _ _⟩
  ·obtain⟨b,o,sp⟩:=a
   have qw:sp=none:=by
    obtain⟨y,h0,_⟩:=fP 0 aa;rw[Nat.zero_mul]at h0
    cases sp with
    |none=>rfl
    |some x=>simp[Addr.add,World.cell?]at h0;split at h0<;>simp at h0
   subst qw
   obtain⟨l,cI,hc⟩:=XE (w:=w) (b:=b) (o:=o) len λ i yB=>by
    obtain⟨y,h0,h1⟩:=fP i yB;rw[lD,lD]at h0 h1;exact⟨y,h0,h1⟩
   exact⟨some ⟨b,o,none⟩,len,cap,l,rfl,cI,hl,aa,λ _=>⟨b,o,rfl,hc⟩⟩
