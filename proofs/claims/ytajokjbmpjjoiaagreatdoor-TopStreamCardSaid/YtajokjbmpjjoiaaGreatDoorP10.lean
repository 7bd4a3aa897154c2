import Derived.Test.YtajokjbmpjjoiaaGreatDoorP01
import Derived.Test.YtajokjbmpjjoiaaGreatDoorChecked
set_option maxRecDepth 20000
set_option maxHeartbeats 0
namespace Go.Proofs.YtajokjbmpjjoiaaGreatDoor
section
open Go.RowKit
theorem ajY (n k:Nat)(h1:1<=k)(h2:k<=wid n)(h7:wid n<=7):(k<wid n->(0:Int)<(n:Int)/2^(8*k))/\(¬k<wid n->(n:Int)/2^(8*k)<=0):=by
 have h:=agJ n k h1 aa;have e:((n/2^(8*k):Nat):Int)=(n:Int)/2^(8*k):=aj;rw[<-e];omega
theorem ajZ (n:Nat)(w:World)(hn:n<=72057594037927935):
 Calls Tryz.prog 99 #[.int .i64 n] w λ e w'=>e= .returned (.int .i64 (wid n))/\w=w':=by
 have h7:=Pq n hn;have hp:=Po n;go_enter Tryz.func99,Tryz.ntmps99;go_wp2;go_loop [3] (λ v=>∃k:Nat,1<=k/\k<=wid n/\v= .int .i64 k) (λ v=>wid n-(intOf v).toNat)
 case atStart=>exact⟨1,aa,hp,rfl⟩
 case round=>
  obtain⟨k,h1,h2,rfl⟩:=hrel;have hk:=ajY n k h1 h2 h7;by_cases ao:k<wid n
  ·have h0:=hk.1 ao;clear hk;go_wp2;go_round
   case rel=>exact⟨k+1,aa,aa,by go_num⟩
   case measure=>simp[intOf];omega
  ·have h0:=hk.2 ao;obtain rfl:k=wid n:=aa;clear hk;go_wp2;go_ret;exact⟨rfl,rfl⟩
theorem Ij:wid 72057594037927935=7:=aA
