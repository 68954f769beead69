/- Fibers: a part of the walk. No condition. -/
import Derived.Test.YtghkahcogphomaaGreatQk02
import Derived.StillTailTactics
import Derived.Deep.RegionWith
import Derived.Deep.RegionLaw
set_option linter.all false
namespace Go.Proofs.YtghkahcogphomaaGreat
section
open Go.ChangeShapes Go.WideShapes Go.RowKit
variable{w:World}{b wb lb:Nat}{A:Ar}
def markedL(l:List (Bool×Bool))(f k:Nat):List (Bool×Bool):=l.mapIdx fun i x=>if f≤i∧i<k then(x.1,true)else x
theorem markedL_self(l:List (Bool×Bool))(f:Nat):markedL l f f=l:=by
 apply List.ext_getElem?;intro i;simp only[markedL,List.getElem?_mapIdx];cases l[i]? with
 |none=>rfl
 |some x=>simp;omega
theorem zt(l:List (Bool×Bool))(f k:Nat):(markedL l f k).length=l.length:=by simp[markedL]
theorem markedL_get(l:List (Bool×Bool))(f k i:Nat):(markedL l f k)[i]? =(l[i]?).map fun x=>if f≤i∧i<k then(x.1,true)else x:=by
 simp only[markedL,List.getElem?_mapIdx]
theorem size_lineCells(l:List (Bool×Bool)):(zk l).size=l.length*2:=by
 simp[zk,List.length_flatMap,List.map_const',List.sum_replicate_nat]
theorem lineCells_set2(l:List (Bool×Bool))(k:Nat)(v:Bool)(hk:k<l.length):(zk l).setIfInBounds (k*2+1) (.bool v)=zk (l.set k ((l[k]?.getD (true,true)).1,v)):=by
 apply Array.ext_getElem?;intro i;rw[Array.getElem?_setIfInBounds,lineCells_get,lineCells_get,size_lineCells];by_cases h:k*2+1=i
 ·subst h;have e:(k*2+1)/2=k:=by omega
  rw[if_pos rfl,if_pos (by omega),e];simp[hk]
 ·rw[if_neg h];by_cases h2:i/2=k
  ·have hm:i%2=0:=by omega
   simp[h2,hk,hm]
  ·rw[List.getElem?_set_ne (by omega)]
theorem markedL_step(l:List (Bool×Bool))(f k:Nat)(h:f≤k)(hk:k<l.length):(markedL l f k).set k (((markedL l f k)[k]?.getD (true,true)).1,true)=markedL l f (k+1):=by
 apply List.ext_getElem?;intro i;rw[markedL_get,markedL_get];by_cases hi:i=k
 ·subst hi;rw[List.getElem?_set_self (by rw[zt];exact hk)];simp[hk,h]
 ·rw[List.getElem?_set_ne (by omega),markedL_get]
  congr 1
  funext x
  have:(f≤i∧i<k)↔(f≤i∧i<k+1):=by omega
  simp only[this]
def Ar.markL(A:Ar)(f k:Nat):Ar:={ A with lines:=markedL A.lines f k }
theorem ArAt.markStep{f k:Nat}(hA:ArAt w b wb lb (A.markL f k))(h:f≤k)(hk:k<A.lines.length):ArAt (w.setCell ⟨lb,k*2+1,none⟩ (.bool true)) b wb lb (A.markL f (k+1)):=by
 obtain⟨hb,hw,hl,n1,n2,n3⟩:=hA;refine⟨?_, ?_, ?_,n1,n2,n3⟩
 ·rw[zD,if_neg n2,hb];simp[Ar.cells,Ar.markL,zt]
 ·rw[zD,if_neg n3,hw];rfl
 ·rw[zD,if_pos rfl,hl];simp only[Option.map_some,setObj,Ar.markL];rw[lineCells_set2 _ _ _ (by rw[zt];exact hk),markedL_step _ _ _ h hk]
def lastOf(m:Nat)(at_ n:Int):Int:=if at_<0∨n-1<(m:Int)*256-1-at_ then min ((m:Int)*256-1) (at_+n-1)else(m:Int)*256-1
def Ar.mark(A:Ar)(m:Nat)(at_ n:Int):Ar:=
 if n<1∨(m:Int)*256-1<at_∨lastOf m at_ n<max at_ 0 then A else A.markL ((max at_ 0).toNat/16) ((lastOf m at_ n).toNat/16+1)
def MarkDone(b wb lb:Nat)(w:World)(A':Ar)(e:Ending)(w':World):Prop:=e=.returned (.tuple #[])∧ArAt w' b wb lb A'∧Fr [lb] w w'
theorem mark_nil(w:World){m:Nat}(hA:ArAt w b wb lb A)(ok:A.Ok m)(at_ n:Int)(ba: -9223372036854775808≤at_∧at_≤9223372036854775807)(bn: -9223372036854775808≤n∧n≤9223372036854775807)
 (h:n<1∨(m:Int)*256-1<at_∨lastOf m at_ n<max at_ 0):
 Calls Tryz.prog 112 #[.pointer (some ⟨b,0,none⟩),.int .i64 at_,.int .i64 n] w (MarkDone b wb lb w A):=by
 have m1:=ok.m1;have m2:=ok.m2;have c0:=hA.c0;rw[ok.wl]at c0;have D:=Lib.hid (show MarkDone b wb lb w A (.returned (.tuple #[])) w.drew from⟨rfl,ArAt.fr hA (Fr.refl [] w).drew (by simp) (by simp) (by simp),(Fr.refl _ _).drew⟩);clear ok hA;by_cases h1:n<1
 ·clear h;by_cases hs:at_<0
  ·go_enter Tryz.func112,Tryz.ntmps112;go_wp2
   go_region
   all_goals
    go_wp2
    go_end0
    exact D.out
  ·have hs':0≤at_:=by omega
   go_enter Tryz.func112,Tryz.ntmps112;go_wp2
   go_region
   all_goals
    go_wp2
    go_end0
    exact D.out
 by_cases h2:(m:Int)*256-1<at_
 ·clear h;have hs: ¬at_<0:=by omega
  ·go_enter Tryz.func112,Tryz.ntmps112;go_wp2
   go_region
   all_goals
    go_wp2
    go_end0
    exact D.out
 have h3:at_+n-1<0:=by unfold lastOf at h;split at h<;>omega
 clear h;have h4:at_<0:=by omega
 go_enter Tryz.func112,Tryz.ntmps112;go_wp2
 go_region
 all_goals
  go_wp2
  go_end0
  exact D.out
theorem mark_a(w:World){m:Nat}(hA:ArAt w b wb lb A)(ok:A.Ok m)(at_ n:Int)(f k1:Nat)(h0:1≤n)(bn:n≤9223372036854775807)(ha: -9223372036854775808≤at_∧at_<0)(hl:at_+n-1<(m:Int)*256-1)(hf:f=0)(hk:(k1:Int)=(at_+n-1)/16)(hp:0≤at_+n-1):
 Calls Tryz.prog 112 #[.pointer (some ⟨b,0,none⟩),.int .i64 at_,.int .i64 n] w (MarkDone b wb lb w (A.markL f (k1+1))):=by
 have HFf:=Lib.hid hf;have g1:(k1:Int)*16≤at_+n-1:=by omega
 have g2:at_+n-1<(k1:Int)*16+16:=by omega
 have g3:f≤k1+1:=by omega
 have hs:at_<0:=by omega
 have m1:=ok.m1;have m2:=ok.m2;have c0:=hA.c0;have hll:=Lib.hid ok.ll;rw[ok.wl]at c0;have AT0:=Lib.hid hA;obtain⟨ha1,ha2⟩:=ha;clear ok hA hf hk;go_enter Tryz.func112,Tryz.ntmps112;go_wp2
 go_region
 all_goals go_wp2
 go_loopw [8] (fun x wr=> ∃k:Nat,f≤k∧k≤k1+1∧x=.int .i64 k∧Hid (ArAt wr b wb lb (A.markL f k))∧Fr [lb] w wr) (fun x _=>k1+1-(intOf x).toNat)
 case atStart=>
  refine⟨f,by omega,by omega,by rw[HFf.out];rfl,Lib.hid ?_,(Fr.refl _ _).drew⟩;rw[show A.markL f f=A by simp[Ar.markL,markedL_self]];exact ArAt.fr AT0.out (Fr.refl [] w).drew (by simp) (by simp) (by simp)
 case round=>
  obtain⟨k,hk1,hk2,rfl,hA,hF⟩:=hrel;have c1:=hA.out.c1;rw[show(A.markL f k).lines.length=m*16 from by simp[Ar.markL,zt,hll.out]]at c1;by_cases hlt:k≤k1
  ·have hm:k<A.lines.length:=by rw[hll.out];omega
   have hc:=hA.out.marked (i:=k) (by simp[Ar.markL,zt];exact hm);have hfl:=hA.out.fl (k*2+1);have ht:(k:Int)≤(at_+n-1)/16:=by omega
   clear hm;go_wp2;go_roundw
   case rel=>exact⟨k+1,by omega,by omega,by go_num,Lib.hid (hA.out.markStep hk1 (by rw[hll.out];omega)),hF.setCell (by simp) _⟩
   case measure=>simp[intOf];omega
  ·have ht:(at_+n-1)/16<(k:Int):=by omega
   have hkt:k=k1+1:=by omega
   subst hkt;go_wp2
   go_end0
   exact⟨rfl,hA.out,hF⟩
theorem mark_b(w:World){m:Nat}(hA:ArAt w b wb lb A)(ok:A.Ok m)(at_ n:Int)(f k1:Nat)(h0:1≤n)(bn:n≤9223372036854775807)(ha: -9223372036854775808≤at_∧at_<0)(hl:(m:Int)*256-1≤at_+n-1)(hf:f=0)(hk:(k1:Int)=((m:Int)*256-1)/16):
 Calls Tryz.prog 112 #[.pointer (some ⟨b,0,none⟩),.int .i64 at_,.int .i64 n] w (MarkDone b wb lb w (A.markL f (k1+1))):=by
 have HFf:=Lib.hid hf;have g1:(k1:Int)*16≤(m:Int)*256-1:=by omega
 have g2:(m:Int)*256-1<(k1:Int)*16+16:=by omega
 have g3:f≤k1+1:=by omega
 have hs:at_<0:=by omega
 have m1:=ok.m1;have m2:=ok.m2;have c0:=hA.c0;have hll:=Lib.hid ok.ll;rw[ok.wl]at c0;have AT0:=Lib.hid hA;obtain⟨ha1,ha2⟩:=ha;clear ok hA hf hk;go_enter Tryz.func112,Tryz.ntmps112;go_wp2
 go_region
 all_goals go_wp2
 go_loopw [8] (fun x wr=> ∃k:Nat,f≤k∧k≤k1+1∧x=.int .i64 k∧Hid (ArAt wr b wb lb (A.markL f k))∧Fr [lb] w wr) (fun x _=>k1+1-(intOf x).toNat)
 case atStart=>
  refine⟨f,by omega,by omega,by rw[HFf.out];rfl,Lib.hid ?_,(Fr.refl _ _).drew⟩;rw[show A.markL f f=A by simp[Ar.markL,markedL_self]];exact ArAt.fr AT0.out (Fr.refl [] w).drew (by simp) (by simp) (by simp)
 case round=>
  obtain⟨k,hk1,hk2,rfl,hA,hF⟩:=hrel;have c1:=hA.out.c1;rw[show(A.markL f k).lines.length=m*16 from by simp[Ar.markL,zt,hll.out]]at c1;by_cases hlt:k≤k1
  ·have hm:k<A.lines.length:=by rw[hll.out];omega
   have hc:=hA.out.marked (i:=k) (by simp[Ar.markL,zt];exact hm);have hfl:=hA.out.fl (k*2+1);have ht:(k:Int)≤((m:Int)*256-1)/16:=by omega
   clear hm;go_wp2;go_roundw
   case rel=>exact⟨k+1,by omega,by omega,by go_num,Lib.hid (hA.out.markStep hk1 (by rw[hll.out];omega)),hF.setCell (by simp) _⟩
   case measure=>simp[intOf];omega
  ·have ht:((m:Int)*256-1)/16<(k:Int):=by omega
   have hkt:k=k1+1:=by omega
   subst hkt;go_wp2
   go_end0
   exact⟨rfl,hA.out,hF⟩
theorem mark_c_(w:World){m:Nat}(hA:ArAt w b wb lb A)(ok:A.Ok m)(at_ n:Int)(f k1:Nat)(h0:1≤n)(bn:n≤9223372036854775807)(ha:0≤at_∧at_≤(m:Int)*256-1)(hl:n-1<(m:Int)*256-1-at_)(hf:(f:Int)=at_/16)(hk:(k1:Int)=(at_+n-1)/16):
 Calls Tryz.prog 112 #[.pointer (some ⟨b,0,none⟩),.int .i64 at_,.int .i64 n] w (MarkDone b wb lb w (A.markL f (k1+1))):=by
 have HFf:=Lib.hid hf;have g1:(k1:Int)*16≤at_+n-1:=by omega
 have g2:at_+n-1<(k1:Int)*16+16:=by omega
 have g3:f≤k1+1:=by omega
 have hs: ¬at_<0:=by omega
 have m1:=ok.m1;have m2:=ok.m2;have c0:=hA.c0;have hll:=Lib.hid ok.ll;rw[ok.wl]at c0;have AT0:=Lib.hid hA;obtain⟨ha1,ha2⟩:=ha;clear ok hA hf hk;go_enter Tryz.func112,Tryz.ntmps112;go_wp2
 go_region
 all_goals go_wp2
 go_loopw [8] (fun x wr=> ∃k:Nat,f≤k∧k≤k1+1∧x=.int .i64 k∧Hid (ArAt wr b wb lb (A.markL f k))∧Fr [lb] w wr) (fun x _=>k1+1-(intOf x).toNat)
 case atStart=>
  refine⟨f,by omega,by omega,by rw[HFf.out],Lib.hid ?_,(Fr.refl _ _).drew⟩;rw[show A.markL f f=A by simp[Ar.markL,markedL_self]];exact ArAt.fr AT0.out (Fr.refl [] w).drew (by simp) (by simp) (by simp)
 case round=>
  obtain⟨k,hk1,hk2,rfl,hA,hF⟩:=hrel;have c1:=hA.out.c1;rw[show(A.markL f k).lines.length=m*16 from by simp[Ar.markL,zt,hll.out]]at c1;by_cases hlt:k≤k1
  ·have hm:k<A.lines.length:=by rw[hll.out];omega
   have hc:=hA.out.marked (i:=k) (by simp[Ar.markL,zt];exact hm);have hfl:=hA.out.fl (k*2+1);have ht:(k:Int)≤(at_+n-1)/16:=by omega
   clear hm;go_wp2;go_roundw
   case rel=>exact⟨k+1,by omega,by omega,by go_num,Lib.hid (hA.out.markStep hk1 (by rw[hll.out];omega)),hF.setCell (by simp) _⟩
   case measure=>simp[intOf];omega
  ·have ht:(at_+n-1)/16<(k:Int):=by omega
   have hkt:k=k1+1:=by omega
   subst hkt;go_wp2
   go_end0
   exact⟨rfl,hA.out,hF⟩
theorem mark_d(w:World){m:Nat}(hA:ArAt w b wb lb A)(ok:A.Ok m)(at_ n:Int)(f k1:Nat)(h0:1≤n)(bn:n≤9223372036854775807)(ha:0≤at_∧at_≤(m:Int)*256-1)(hl:(m:Int)*256-1-at_≤n-1)(hf:(f:Int)=at_/16)(hk:(k1:Int)=((m:Int)*256-1)/16):
 Calls Tryz.prog 112 #[.pointer (some ⟨b,0,none⟩),.int .i64 at_,.int .i64 n] w (MarkDone b wb lb w (A.markL f (k1+1))):=by
 have HFf:=Lib.hid hf;have g1:(k1:Int)*16≤(m:Int)*256-1:=by omega
 have g2:(m:Int)*256-1<(k1:Int)*16+16:=by omega
 have g3:f≤k1+1:=by omega
 have hs: ¬at_<0:=by omega
 have m1:=ok.m1;have m2:=ok.m2;have c0:=hA.c0;have hll:=Lib.hid ok.ll;rw[ok.wl]at c0;have AT0:=Lib.hid hA;obtain⟨ha1,ha2⟩:=ha;clear ok hA hf hk;go_enter Tryz.func112,Tryz.ntmps112;go_wp2
 go_region
 all_goals go_wp2
 go_loopw [8] (fun x wr=> ∃k:Nat,f≤k∧k≤k1+1∧x=.int .i64 k∧Hid (ArAt wr b wb lb (A.markL f k))∧Fr [lb] w wr) (fun x _=>k1+1-(intOf x).toNat)
 case atStart=>
  refine⟨f,by omega,by omega,by rw[HFf.out],Lib.hid ?_,(Fr.refl _ _).drew⟩;rw[show A.markL f f=A by simp[Ar.markL,markedL_self]];exact ArAt.fr AT0.out (Fr.refl [] w).drew (by simp) (by simp) (by simp)
 case round=>
  obtain⟨k,hk1,hk2,rfl,hA,hF⟩:=hrel;have c1:=hA.out.c1;rw[show(A.markL f k).lines.length=m*16 from by simp[Ar.markL,zt,hll.out]]at c1;by_cases hlt:k≤k1
  ·have hm:k<A.lines.length:=by rw[hll.out];omega
   have hc:=hA.out.marked (i:=k) (by simp[Ar.markL,zt];exact hm);have hfl:=hA.out.fl (k*2+1);have ht:(k:Int)≤((m:Int)*256-1)/16:=by omega
   clear hm;go_wp2;go_roundw
   case rel=>exact⟨k+1,by omega,by omega,by go_num,Lib.hid (hA.out.markStep hk1 (by rw[hll.out];omega)),hF.setCell (by simp) _⟩
   case measure=>simp[intOf];omega
  ·have ht:((m:Int)*256-1)/16<(k:Int):=by omega
   have hkt:k=k1+1:=by omega
   subst hkt;go_wp2
   go_end0
   exact⟨rfl,hA.out,hF⟩
theorem mark_c(w:World){m:Nat}(hA:ArAt w b wb lb A)(ok:A.Ok m)(at_ n:Int)(ba: -9223372036854775808≤at_∧at_≤9223372036854775807)(bn: -9223372036854775808≤n∧n≤9223372036854775807):
 Calls Tryz.prog 112 #[.pointer (some ⟨b,0,none⟩),.int .i64 at_,.int .i64 n] w (MarkDone b wb lb w (A.mark m at_ n)):=by
 have m1:=ok.m1;have m2:=ok.m2;unfold Ar.mark;by_cases h:n<1∨(m:Int)*256-1<at_∨lastOf m at_ n<max at_ 0
 ·rw[if_pos h];exact mark_nil w hA ok at_ n ba bn h
 ·rw[if_neg h];unfold lastOf at h⊢;by_cases h1:at_<0
  ·rw[if_pos (.inl h1)]at h⊢;by_cases h2:at_+n-1<(m:Int)*256-1
   ·exact mark_a w hA ok at_ n _ _ (by omega) (by omega) (by omega) h2 (by omega) (by omega) (by omega)
   ·exact mark_b w hA ok at_ n _ _ (by omega) (by omega) (by omega) (by omega) (by omega) (by omega)
  ·by_cases h2:n-1<(m:Int)*256-1-at_
   ·rw[if_pos (.inr h2)]at h⊢;exact mark_c_ w hA ok at_ n _ _ (by omega) (by omega) (by omega) h2 (by omega) (by omega)
   ·rw[if_neg (by omega)]at h⊢;exact mark_d w hA ok at_ n _ _ (by omega) (by omega) (by omega) (by omega) (by omega) (by omega)
def swept(l:List (Bool×Bool))(k:Nat):List (Bool×Bool):=l.mapIdx fun i x=>if i<k then(x.2,false)else x
theorem swept_zero(l:List (Bool×Bool)):swept l 0=l:=by
 apply List.ext_getElem?;intro i;simp only[swept,List.getElem?_mapIdx];cases l[i]? with
 |none=>rfl
 |some x=>simp
theorem len_swept(l:List (Bool×Bool))(k:Nat):(swept l k).length=l.length:=by simp[swept]
theorem swept_get(l:List (Bool×Bool))(k i:Nat):(swept l k)[i]? =(l[i]?).map fun x=>if i<k then(x.2,false)else x:=by
 simp only[swept,List.getElem?_mapIdx]
theorem swept_all(l:List (Bool×Bool))(k:Nat)(h:l.length≤k):swept l k=l.map fun x=>(x.2,false):=by
 apply List.ext_getElem?;intro i;rw[swept_get,List.getElem?_map];by_cases hi:i<l.length
 ·simp[hi,show i<k from by omega]
 ·simp[hi]
theorem lineCells_set3(l:List (Bool×Bool))(k:Nat)(u v:Bool)(hk:k<l.length):((zk l).setIfInBounds (k*2) (.bool u)).setIfInBounds (k*2+1) (.bool v)=zk (l.set k (u,v)):=by
 rw[lineCells_set _ _ _ hk,lineCells_set2 _ _ _ (by simpa using hk)];simp[hk]
theorem swept_step(l:List (Bool×Bool))(k:Nat)(hk:k<l.length):(swept l k).set k (mk' (swept l k) k,false)=swept l (k+1):=by
 apply List.ext_getElem?;intro i;rw[swept_get];by_cases hi:i=k
 ·subst hi;rw[List.getElem?_set_self (by rw[len_swept];exact hk)];simp[hk,mk',swept_get]
 ·rw[List.getElem?_set_ne (by omega),swept_get]
  congr 1
  funext x
  have:(i<k)↔(i<k+1):=by omega
  simp only[this]
def Ar.swp(A:Ar)(k:Nat):Ar:={ A with lines:=swept A.lines k }
theorem ArAt.swpStep{k:Nat}(hA:ArAt w b wb lb (A.swp k))(hk:k<A.lines.length):ArAt ((w.setCell ⟨lb,k*2,none⟩ (.bool (mk' (A.swp k).lines k))).setCell ⟨lb,k*2+1,none⟩ (.bool false)) b wb lb (A.swp (k+1)):=by
 obtain⟨hb,hw,hl,n1,n2,n3⟩:=hA;refine⟨?_, ?_, ?_,n1,n2,n3⟩
 ·rw[zD,if_neg n2,zD,if_neg n2,hb];simp[Ar.cells,Ar.swp,len_swept]
 ·rw[zD,if_neg n3,zD,if_neg n3,hw];rfl
 ·rw[zD,if_pos rfl,zD,if_pos rfl,hl];simp only[Option.map_some,setObj,Ar.swp];rw[lineCells_set3 _ _ _ _ (by rw[len_swept];exact hk),swept_step _ _ hk]
def Ar.sweep(A:Ar):Ar:=⟨A.words,A.lines.map fun x=>(x.2,false),0,0,0,0,0,0,0⟩
theorem ArAt.fin{n:Nat}(hA:ArAt w b wb lb (A.swp n))(hn:A.lines.length≤n):
 ArAt (((((((w.setCell ⟨b,2,none⟩ (.int .i64 0)).setCell ⟨b,3,none⟩ (.int .i64 0)).setCell ⟨b,4,none⟩ (.int .i64 0)).setCell ⟨b,5,none⟩ (.int .i64 0)).setCell ⟨b,6,none⟩ (.int .i64 0)).setCell ⟨b,7,none⟩ (.int .i64 0)).setCell ⟨b,8,none⟩ (.int .i64 0)) b wb lb A.sweep:=by
 have e:A.sweep.lines=(A.swp n).lines:=by simp[Ar.sweep,Ar.swp,swept_all _ _ hn]
 refine((((((hA.field { A.swp n with sf:=0 } 2 _ rfl rfl rfl).field { A.swp n with sf:=0,st:=0 } 3 _ rfl rfl rfl).field { A.swp n with sf:=0,st:=0,gf:=0 } 4 _ rfl rfl rfl).field { A.swp n with sf:=0,st:=0,gf:=0,gt:=0 } 5 _ rfl rfl rfl).field { A.swp n with sf:=0,st:=0,gf:=0,gt:=0,cf:=0 } 6 _ rfl rfl rfl).field { A.swp n with sf:=0,st:=0,gf:=0,gt:=0,cf:=0,ct:=0 } 7 _ rfl rfl rfl).field A.sweep 8 _ ?_ rfl e;simp[Ar.cells,Ar.sweep,Ar.swp,len_swept]
theorem sweep_c(w:World){m:Nat}(hA:ArAt w b wb lb A)(ok:A.Ok m):
 Calls Tryz.prog 88 #[.pointer (some ⟨b,0,none⟩)] w fun e w'=>e=.returned (.tuple #[])∧ArAt w' b wb lb A.sweep∧Fr [b,lb] w w':=by
 have m1:=ok.m1;have m2:=ok.m2;have c1:=hA.c1;have hll:=Lib.hid ok.ll;have hlt:=zF hA.hl;have hbt:=zF hA.hb;have hwt:=zF hA.hw;rw[ok.ll]at c1;have n1:=hA.n2;have AT0:=Lib.hid hA;clear ok hA;go_enter Tryz.func88,Tryz.ntmps88;go_wp2;go_loopw [9] (fun x wr=> ∃k:Nat,k≤m*16∧x=.int .i64 k∧Hid (ArAt wr b wb lb (A.swp k))∧Fr [b,lb] w wr) (fun x _=>m*16-(intOf x).toNat)
 case atStart=>
  refine⟨0,by omega,rfl,Lib.hid ?_,Fr.refl _ _⟩;rw[show A.swp 0=A by simp[Ar.swp,swept_zero]];exact AT0.out
 case round=>
  obtain⟨k,hk,rfl,hA,hF⟩:=hrel;by_cases hlt:k<m*16
  ·have c1:=hA.out.c1;rw[show(A.swp k).lines.length=m*16 from by simp[Ar.swp,len_swept,hll.out]]at c1;have hm:k<(A.swp k).lines.length:=by simp[Ar.swp,len_swept,hll.out];omega
   have hc0:=hA.out.taken hm;have hc1:=hA.out.marked hm;have hf0:=hA.out.fl (k*2);have hf1:=hA.out.fl (k*2+1);have hsz:=hF.size;have q1:lb<wr.heap.size:=by omega
   have q2:b<wr.heap.size:=by omega
   obtain⟨z,hz⟩: ∃z,z=mk' (A.swp k).lines k:=⟨_,rfl⟩;have HZ:=Lib.hid hz;rw[←hz]at hc1;clear hm hz;go_wp2
   go_region
   go_wp2;go_roundw
   case rel=>
    refine⟨k+1,by omega,by go_num,Lib.hid ?_,(((hF.setCell (by simp) _).setCell (by simp) _).alloc _).drew⟩;have S1:=hA.out.swpStep (by rw[hll.out];exact hlt);rw[←HZ.out]at S1;exact ArAt.fr S1 ((Fr.refl [] _).alloc _).drew (by simp) (by simp) (by simp)
   case measure=>simp[intOf];omega
  ·have hkn:k=m*16:=by omega
   subst hkn;have k2:=hA.out.c2;have k3:=hA.out.c3;have k4:=hA.out.c4;have k5:=hA.out.c5;have k6:=hA.out.c6;have k7:=hA.out.c7;have k8:=hA.out.c8;have kf:=hA.out.fb;have FIN:=Lib.hid (hA.out.fin (by rw[hll.out];exact Nat.le_refl _));go_wp2
   go_end0
   refine⟨rfl,FIN.out, ?_⟩;exact((((((hF.setCell (by simp) _).setCell (by simp) _).setCell (by simp) _).setCell (by simp) _).setCell (by simp) _).setCell (by simp) _).setCell (by simp) _
def zW(l:List (Bool×Bool)):Nat→Nat
 |0=>0
 |k+1=>zW l k+if freeOf l k=16 then 1 else 0
theorem emptyIn_le(l:List (Bool×Bool))(k:Nat):zW l k≤k:=by
 induction k with
 |zero=>simp[zW]
 |succ k ih=>simp only[zW];split<;>omega
theorem empty_c(w:World){m:Nat}(hA:ArAt w b wb lb A)(ok:A.Ok m):
 Calls Tryz.prog 85 #[.pointer (some ⟨b,0,none⟩)] w fun e w'=>e=.returned (.int .i64 (zW A.lines m))∧Fr [] w w':=by
 have m1:=ok.m1;have m2:=ok.m2;have CB:=Lib.hid (blocks_c w hA ok);have CF:=Lib.hid (fun w' (hF:Fr [] w w') q hq=>free_yes w' (ArAt.fr hA hF (by simp) (by simp) (by simp)) ok q hq);clear ok hA;go_enter Tryz.func85,Tryz.ntmps85;go_wp2_with (go_at_call 83;refine CB.out.mono ?_;rintro e w' ⟨rfl,rfl⟩);go_loopw [3,7] (fun c x wr=> ∃k:Nat,k≤m∧x=.int .i64 k∧c=.int .i64 (zW A.lines k)∧Fr [] w wr) (fun _ x _=>m-(intOf x).toNat)
 case atStart=>exact⟨0,by omega,rfl,rfl,Fr.refl _ _⟩
 case round=>
  obtain⟨k,hk,rfl,rfl,hF⟩:=hrel;have hle:=emptyIn_le A.lines k;by_cases hlt:k<m
  ·have CQ:=Lib.hid (CF.out wr hF k hlt);have he:zW A.lines (k+1)=zW A.lines k+if freeOf A.lines k=16 then 1 else 0:=rfl
   by_cases h16:freeOf A.lines k=16
   ·rw[if_pos h16]at he;rw[h16]at CQ;have HE:=Lib.hid he;clear he h16;go_wp2_with (go_at_call 106;refine CQ.out.mono ?_;rintro e w' ⟨rfl,hF2⟩);go_roundw
    case rel=>exact⟨k+1,by omega,by go_num,by rw[HE.out];go_num,hF.same hF2⟩
    case measure=>simp[intOf];omega
   ·rw[if_neg h16]at he;have hb:((freeOf A.lines k:Int)==16)=false:=by simp;omega
    have HE:=Lib.hid he;clear he h16;go_wp2_with (go_at_call 106;refine CQ.out.mono ?_;rintro e w' ⟨rfl,hF2⟩);go_roundw
    case rel=>exact⟨k+1,by omega,by go_num,by rw[HE.out];rfl,hF.same hF2⟩
    case measure=>simp[intOf];omega
  ·have hkm:k=m:=by omega
   subst hkm;go_wp2;go_ret;exact⟨rfl,hF⟩
end
section
open Go.ChangeShapes Go.WideShapes Go.RowKit
variable{w:World}{b wb lb:Nat}{A:Ar}{m:Nat}
theorem Ar.Ok.smallA(ok:A.Ok m)(n:Nat)(h1:n≤16):(A.smallA n).1.Ok m:=by
 obtain⟨m1,m2,wl,ll,s1,s2,g1,g2,c1,c2,x1⟩:=ok;unfold Ar.smallA;split
 ·exact⟨m1,m2,wl,ll,by simp only[];omega,s2,g1,g2,c1,c2,x1⟩
 ·split
  ·exact⟨m1,m2,wl,ll,s1,s2,g1,g2,c1,c2,x1⟩
  ·rename_i f t hf
   obtain⟨p1,p2,p3,p4,p5⟩:=find_spec _ _ _ (by omega) _ _ hf;rw[ll]at p3;exact⟨m1,m2,wl,by simp[Ar.claim,zo,ll],by simp only[];omega,by simp only[];omega,g1,g2,c1,c2,p3⟩
theorem Ar.Ok.greatA(ok:A.Ok m)(n:Nat)(h0:1≤n)(h1:n≤256):(A.greatA n m).1.Ok m:=by
 obtain⟨m1,m2,wl,ll,s1,s2,g1,g2,c1,c2,x1⟩:=ok;unfold Ar.greatA;split
 ·exact⟨m1,m2,wl,ll,s1,s2,by simp only[];omega,g2,c1,c2,x1⟩
 ·split
  ·rename_i q hq
   have:=(zw _ _ _ hq).1;exact⟨m1,m2,wl,by simp[Ar.claim,zo,ll],s1,s2,by simp only[];omega,by simp only[];omega,c1,c2,x1⟩
  ·split
   ·exact⟨m1,m2,wl,ll,s1,s2,g1,g2,c1,c2,x1⟩
   ·rename_i f t hf
    obtain⟨p1,p2,p3,p4,p5⟩:=find_spec _ _ _ (by omega) _ _ hf;rw[ll]at p3;exact⟨m1,m2,wl,by simp[Ar.claim,zo,ll],s1,s2,by simp only[];omega,by simp only[];omega,c1,c2,x1⟩
theorem Ar.Ok.alloc(ok:A.Ok m)(n:Int):(A.alloc m n).1.Ok m:=by
 unfold Ar.alloc;split
 ·exact ok
 ·split
  ·exact ok.greatA _ (by omega) (by omega)
  ·exact ok.smallA _ (by omega)
theorem Ar.Ok.fresh(ok:A.Ok m)(n:Int):(A.fresh m n).1.Ok m:=by
 unfold Ar.fresh;split
 ·exact ok
 ·obtain⟨m1,m2,wl,ll,s1,s2,g1,g2,c1,c2,x1⟩:=ok;unfold Ar.freshA;split
  ·exact⟨m1,m2,wl,ll,s1,s2,g1,g2,by simp only[];omega,c2,x1⟩
  ·split
   ·rename_i q hq
    have:=(zw _ _ _ hq).1;exact⟨m1,m2,wl,by simp[Ar.claim,zo,ll],s1,s2,g1,g2,by simp only[];omega,by simp only[];omega,x1⟩
   ·exact⟨m1,m2,wl,ll,s1,s2,g1,g2,c1,c2,x1⟩
theorem Ar.Ok.mark(ok:A.Ok m)(a n:Int):(A.mark m a n).Ok m:=by
 obtain⟨m1,m2,wl,ll,s1,s2,g1,g2,c1,c2,x1⟩:=ok;unfold Ar.mark;split
 ·exact⟨m1,m2,wl,ll,s1,s2,g1,g2,c1,c2,x1⟩
 ·exact⟨m1,m2,wl,by simp[Ar.markL,zt,ll],s1,s2,g1,g2,c1,c2,x1⟩
theorem Ar.Ok.sweep(ok:A.Ok m):A.sweep.Ok m:=by
 obtain⟨m1,m2,wl,ll,s1,s2,g1,g2,c1,c2,x1⟩:=ok;exact⟨m1,m2,wl,by simp[Ar.sweep,ll],by simp[Ar.sweep],by simp[Ar.sweep],by simp[Ar.sweep],by simp[Ar.sweep],by simp[Ar.sweep],by simp[Ar.sweep],by simp[Ar.sweep]⟩
theorem Ar.Ok.set(ok:A.Ok m)(i:Nat)(v:Int):(A.set i v).Ok m:=by
 obtain⟨m1,m2,wl,ll,s1,s2,g1,g2,c1,c2,x1⟩:=ok;exact⟨m1,m2,by simp[Ar.set,wl],ll,s1,s2,g1,g2,c1,c2,x1⟩
end
section
open Go.ChangeShapes Go.WideShapes Go.RowKit
def Ar.Wd(A:Ar):Prop:= ∀x,x∈A.words→0≤x∧x<18446744073709551616
def Ar.wd(A:Ar)(i:Nat):Int:=A.words[i]?.getD 0
theorem Ar.Wd.at{A:Ar}(h:A.Wd)(i:Nat):0≤Ar.wd A i∧Ar.wd A i<18446744073709551616:=by
 unfold Ar.wd;rcases Nat.lt_or_ge i A.words.length with hi|hi
 ·rw[List.getElem?_eq_getElem hi];exact h _ (List.getElem_mem hi)
 ·rw[List.getElem?_eq_none hi];simp
structure Hd where
 a:Nat
 kind:Nat
 pins:Nat
 n:Nat
def hdW(kind pins n:Int):Int:=(n*256+pins*32+kind)*8+6
def hAt(A:Ar)(m:Nat)(w:Int):Option Hd:=
 if w%8=1∧w/8<(m:Int)*256∧A.wd (w/8).toNat%8=6 then
  some ⟨(w/8).toNat,(A.wd (w/8).toNat/8%32).toNat,(A.wd (w/8).toNat/256%8).toNat,(A.wd (w/8).toNat/2048).toNat⟩
 else none
structure HeAt(w:World)(hb b wb lb:Nat)(A:Ar):Prop where
 p:blk w hb=some (.cells #[.pointer (some ⟨b,0,none⟩)] 143 (0,0))
 ar:ArAt w b wb lb A
 n1:hb≠b
 n2:hb≠wb
 n3:hb≠lb
variable{w:World}{hb b wb lb:Nat}{A:Ar}{m:Nat}
theorem HeAt.fr{S:List Nat}{w':World}(h:HeAt w hb b wb lb A)(hF:Fr S w w')(h0:hb∉S)(h1:b∉S)(h2:wb∉S)(h3:lb∉S):HeAt w' hb b wb lb A:=
 ⟨hF.at h.p h0,h.ar.fr hF h1 h2 h3,h.n1,h.n2,h.n3⟩
theorem HeAt.keep{w':World}(h:HeAt w hb b wb lb A)(hF:Fr [] w w'):HeAt w' hb b wb lb A:=h.fr hF (by simp) (by simp) (by simp) (by simp)
theorem HeAt.cell(h:HeAt w hb b wb lb A):w.cell? ⟨hb,0,none⟩=some (.pointer (some ⟨b,0,none⟩)):=zA h.p rfl
theorem HeAt.arena{S:List Nat}{w':World}{A':Ar}(h:HeAt w hb b wb lb A)(hF:Fr S w w')(h0:hb∉S)(hA:ArAt w' b wb lb A'):HeAt w' hb b wb lb A':=
 ⟨hF.at h.p h0,hA,h.n1,h.n2,h.n3⟩
def hdVal:Option Hd→Value
 |some h=> .tuple #[.int .i64 h.a,.agg #[.int .i64 h.kind,.int .i64 h.pins,.int .i64 h.n],.bool true]
 |none=> .tuple #[.int .i64 0,.agg #[.int .i64 0,.int .i64 0,.int .i64 0],.bool false]
def AtDone(w:World)(o:Option Hd)(e:Ending)(w':World):Prop:=e=.returned (hdVal o)∧Fr [] w w'
theorem at_no1(w:World)(x:Int)(h0:0≤x)(h1:x<18446744073709551616)(hx:x%8≠1)(ptr:Value):
 Calls Tryz.prog 114 #[ptr,.int .u64 x] w (AtDone w none):=by
 have hbb:(x%8 !=1)=true:=by simpa using hx
 go_enter Tryz.func114,Tryz.ntmps114;go_wp2_with (go_at_call 48;refine(zx _ _ h0 h1).mono ?_;rintro e w' ⟨rfl,rfl⟩);refine bodyPost_ret (v:=hdVal none) (by simp[results,Tryz.results114,go_sem,hdVal]) rfl ⟨rfl, ?_⟩;exact(Fr.refl _ _).alloc _
theorem wraps_i64(n:Int)(h₀:0≤n)(h₁:n<2^63):IntKind.i64.wrap n=n:=by rw[IntKind.wrap_i64];omega
theorem andi7(t:Int)(h0:0≤t)(h1:t<9223372036854775808):bits BinOp.and IntKind.i64 t 7=t%8:=
 bits_mask .i64 63 (by decide) wraps_i64 3 (by decide) t h0 (by omega)
theorem val1(x:Int)(hx:x%8=1):wVal x=x/8:=by unfold wVal;rw[if_neg (by omega)]
theorem at_out(w:World)(hH:HeAt w hb b wb lb A)(ok:A.Ok m)(x:Int)(h0:0≤x)(h1:x<18446744073709551616)(hx:x%8=1)(ha:(m:Int)*256≤x/8):
 Calls Tryz.prog 114 #[.pointer (some ⟨hb,0,none⟩),.int .u64 x] w (AtDone w none):=by
 have hbb:(x%8 !=1)=false:=by simpa using hx
 have c0:=hH.cell;have HH:=Lib.hid hH;have OK:=Lib.hid ok;have V1:=Lib.hid (val1 x hx);have qb:=zF hH.p;clear hH ok hx;go_enter Tryz.func114,Tryz.ntmps114;go_wp2_with fail;refine(zx _ _ h0 h1).mono ?_;rintro e w' ⟨rfl,rfl⟩;go_wp2_with fail;refine(value_c _ _ h0 h1).mono ?_;rintro e w' ⟨rfl,rfl⟩;rw[V1.out];go_wp2_with fail;refine(get_no _ (HH.out.ar.fr ((Fr.refl [] w).alloc _) (by simp) (by simp) (by simp)) OK.out (x/8) (.inr ha)).mono ?_;rintro e w' ⟨rfl,rfl⟩;go_wp2;refine bodyPost_ret (v:=hdVal none) (by simp[results,Tryz.results114,go_sem,hdVal]) rfl ⟨rfl, ?_⟩;exact(Fr.refl _ _).alloc _
theorem at_in(w:World)(hH:HeAt w hb b wb lb A)(ok:A.Ok m)(x:Int)(a:Nat)(y:Int)(h0:0≤x)(h1:x<18446744073709551616)(hx:x%8=1)(ha:x/8=a)(hm:a<m*256)(hy:A.words[a]?.getD 0=y)(y0:0≤y)(y1:y<18446744073709551616)(h6:y%8≠6):
 Calls Tryz.prog 114 #[.pointer (some ⟨hb,0,none⟩),.int .u64 x] w (AtDone w none):=by
 have hbb:(x%8 !=1)=false:=by simpa using hx
 have h6b:(y%8 !=6)=true:=by simpa using h6
 have c0:=hH.cell;have e7:=and7 y y0 y1;have HH:=Lib.hid hH;have OK:=Lib.hid ok;have V1:=Lib.hid ((val1 x hx).trans ha);have qb:=zF hH.p;have HY:=Lib.hid hy;clear hH ok hx ha hy h6;go_enter Tryz.func114,Tryz.ntmps114;go_wp2_with fail;refine(zx _ _ h0 h1).mono ?_;rintro e w' ⟨rfl,rfl⟩;go_wp2_with fail;refine(value_c _ _ h0 h1).mono ?_;rintro e w' ⟨rfl,rfl⟩;rw[V1.out];go_wp2_with fail;refine(get_yes _ (HH.out.ar.fr ((Fr.refl [] w).alloc _) (by simp) (by simp) (by simp)) OK.out a hm).mono ?_;rintro e w' ⟨rfl,rfl⟩;rw[HY.out];go_wp2;refine bodyPost_ret (v:=hdVal none) (by simp[results,Tryz.results114,go_sem,hdVal]) rfl ⟨rfl, ?_⟩;exact(Fr.refl _ _).alloc _
theorem at_yes(w:World)(hH:HeAt w hb b wb lb A)(ok:A.Ok m)(x:Int)(a:Nat)(y:Int)(h0:0≤x)(h1:x<18446744073709551616)(hx:x%8=1)(ha:x/8=a)(hm:a<m*256)(hy:A.words[a]?.getD 0=y)(y0:0≤y)(y1:y<18446744073709551616)(h6:y%8=6):
 Calls Tryz.prog 114 #[.pointer (some ⟨hb,0,none⟩),.int .u64 x] w fun e w'=>e=.returned (.tuple #[.int .i64 (a:Int),.agg #[.int .i64 (y/8%32),.int .i64 (y/8/32%8),.int .i64 (y/8/256)],.bool true])∧Fr [] w w':=by
 have hbb:(x%8 !=1)=false:=by simpa using hx
 have h6b:(y%8 !=6)=false:=by simpa using h6
 have c0:=hH.cell;have e7:=and7 y y0 y1;have e8:=andi7 (y/8/32) (by omega) (by omega);have HH:=Lib.hid hH;have OK:=Lib.hid ok;have V1:=Lib.hid ((val1 x hx).trans ha);have qb:=zF hH.p;have HY:=Lib.hid hy;clear hH ok hx ha hy h6;go_enter Tryz.func114,Tryz.ntmps114;go_wp2_with fail;refine(zx _ _ h0 h1).mono ?_;rintro e w' ⟨rfl,rfl⟩;go_wp2_with fail;refine(value_c _ _ h0 h1).mono ?_;rintro e w' ⟨rfl,rfl⟩;rw[V1.out];go_wp2_with fail;refine(get_yes _ (HH.out.ar.fr ((Fr.refl [] w).alloc _) (by simp) (by simp) (by simp)) OK.out a hm).mono ?_;rintro e w' ⟨rfl,rfl⟩;rw[HY.out];go_wp2;refine bodyPost_ret (v:=.tuple #[.int .i64 (a:Int),.agg #[.int .i64 (y/8%32),.int .i64 (y/8/32%8),.int .i64 (y/8/256)],.bool true]) (by simp[results,Tryz.results114,go_sem]) rfl ⟨rfl, ?_⟩;exact(Fr.refl _ _).alloc _
theorem at_c(w:World)(hH:HeAt w hb b wb lb A)(ok:A.Ok m)(wd:A.Wd)(x:Int)(h0:0≤x)(h1:x<18446744073709551616):
 Calls Tryz.prog 114 #[.pointer (some ⟨hb,0,none⟩),.int .u64 x] w (AtDone w (hAt A m x)):=by
 have hwd:=wd.at (x/8).toNat;by_cases hx:x%8=1
 ·by_cases ha:x/8<(m:Int)*256
  ·by_cases h6:A.wd (x/8).toNat%8=6
   ·have:=at_yes w hH ok x (x/8).toNat (A.wd (x/8).toNat) h0 h1 hx (by omega) (by omega) rfl hwd.1 hwd.2 h6;unfold hAt;rw[if_pos ⟨hx,ha,h6⟩];refine this.mono ?_;rintro e w' ⟨rfl,hF⟩;refine⟨?_,hF⟩;simp only[hdVal];rw[show((A.wd (x/8).toNat/8%32).toNat:Int)=A.wd (x/8).toNat/8%32 by omega,show((A.wd (x/8).toNat/256%8).toNat:Int)=A.wd (x/8).toNat/8/32%8 by omega,show((A.wd (x/8).toNat/2048).toNat:Int)=A.wd (x/8).toNat/8/256 by omega]
   ·unfold hAt;rw[if_neg (by omega)];exact at_in w hH ok x (x/8).toNat (A.wd (x/8).toNat) h0 h1 hx (by omega) (by omega) rfl hwd.1 hwd.2 h6
  ·unfold hAt;rw[if_neg (by omega)];exact at_out w hH ok x h0 h1 hx (by omega)
 ·unfold hAt;rw[if_neg (by omega)];exact at_no1 w x h0 h1 hx _
end
end Go.Proofs.YtghkahcogphomaaGreat
