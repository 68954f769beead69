/- Fibers: a part of the walk. No condition. -/
import Derived.Test.YtghkahcogphomaaGreatQk15
set_option linter.all false
section
namespace Go.Proofs.YtghkahcogphomaaGreat
open Go.ChangeShapes Go.WideShapes Go.RowKit Go.Maps
variable{w w':World}{c:Tk}{m n:Nat}{cl:Int→Int}{wv:Value}{T:Tr}
structure FB(c:Tk)(w w':World):Prop where
 os:w'.os=w.os
 tape:w'.tape=w.tape
 output:w'.output=w.output
 size:w.heap.size≤w'.heap.size
 base:c.B≤w.heap.size
 block: ∀k,k<c.B→k∉c.own→blk w' k=blk w k
theorem FB.refl{c:Tk}{w:World}(h:c.B≤w.heap.size):FB c w w:=⟨rfl,rfl,rfl,Nat.le_refl _,h,fun _ _ _=>rfl⟩
theorem FB.trans{c:Tk}{a b d:World}(h:FB c a b)(k:FB c b d):FB c a d:=
 ⟨k.os.trans h.os,k.tape.trans h.tape,k.output.trans h.output,Nat.le_trans h.size k.size,h.base,fun i h1 h2=>(k.block i h1 h2).trans (h.block i h1 h2)⟩
theorem FB.of{c:Tk}{S:List Nat}{w w':World}(h:Fr S w w')(hB:c.B≤w.heap.size)(hS: ∀x,x∈S→x∈c.own∨c.B≤x):FB c w w':=
 ⟨h.os,h.tape,h.output,h.size,hB,fun k h1 h2=>h.block k (by omega) (fun hm=>by rcases hS k hm with h3|h3;exact h2 h3;omega)⟩
theorem FB.nil{c:Tk}{w w':World}(h:Fr [] w w')(hB:c.B≤w.heap.size):FB c w w':=FB.of h hB (by simp)
theorem FB.ge{c:Tk}{w w':World}(h:FB c w w'):c.B≤w'.heap.size:=Nat.le_trans h.base h.size
def Tr.Bd(T:Tr):Prop:=(0≤T.live∧T.live<2000000)∧(0≤T.moved∧T.moved<2000000)∧T.work.length<2000000
def zT(cl:Int→Int)(m:Nat)(T:Tr)(x:Int):Tr×Int:=
 if x%8≠1 then(T,x)else
 match movedF T.A m x with
 |some y=>(T,y)
 |none=>
  if szI T.A m x<0∨(T.seen.length:Int)≤wVal x∨T.seen[(wVal x).toNat]?.getD true=true then(T,x)else
  ({(moveT cl m T x).1 with
     A:=(moveT cl m T x).1.A.mark m (wVal (moveT cl m T x).2.1) (szI T.A m x+1)
     seen:=(moveT cl m T x).1.seen.set (wVal (moveT cl m T x).2.1).toNat true
     live:=(moveT cl m T x).1.live+1
     work:=(moveT cl m T x).1.work++[(moveT cl m T x).2.1]},(moveT cl m T x).2.1)
def FwDone(c:Tk)(m n:Nat)(cl:Int→Int)(w:World)(r:Tr×Int)(e:Ending)(w':World):Prop:=
 e=.returned (.int .u64 r.2)∧(∃wv,TrAt w' c m n cl wv r.1)∧FB c w w'
theorem TrAt.ge(h:TrAt w c m n cl wv T): ∀x,x∈wv.ownBlock.toList→c.B≤x:=by
 intro x hx;exact own_ge' h.wk x (by simpa using hx)
theorem TrAt.c4(h:TrAt w c m n cl wv T):w.cell? ⟨c.tb,4,none⟩=some (.slice (some ⟨c.sb,0,none⟩) T.seen.length T.seen.length):=zA h.t rfl
theorem TrAt.c5(h:TrAt w c m n cl wv T):w.cell? ⟨c.tb,5,none⟩=some wv:=zA h.t rfl
theorem TrAt.c6(h:TrAt w c m n cl wv T):w.cell? ⟨c.tb,6,none⟩=some (.int .i64 T.live):=zA h.t rfl
theorem TrAt.ft(h:TrAt w c m n cl wv T)(i:Nat):w.frozen? ⟨c.tb,i,none⟩=false:=zE h.t
theorem TrAt.fs(h:TrAt w c m n cl wv T)(i:Nat):w.frozen? ⟨c.sb,i,none⟩=false:=zE h.s
theorem TrAt.cs(h:TrAt w c m n cl wv T){i:Nat}(hi:i<T.seen.length):w.cell? ⟨c.sb,i,none⟩=some (.bool (T.seen[i]?.getD true)):=
 zA h.s (by simp[hi])
theorem TrAt.setSeen(h:TrAt w c m n cl wv T)(i:Nat):TrAt (w.setCell ⟨c.sb,i,none⟩ (.bool true)) c m n cl wv { T with seen:=T.seen.set i true }:=by
 have ap:=h.ap;simp only[List.nodup_cons,List.mem_cons,List.not_mem_nil,or_false,not_or]at ap;obtain⟨⟨a1,a2,a3,a4,a5,a6⟩,⟨b2,b3,b4,b5,b6⟩,_⟩:=ap;have hF:Fr [c.sb] w (w.setCell ⟨c.sb,i,none⟩ (.bool true)):=(Fr.refl _ _).setCell (by simp) _;have hlo:=h.lo;refine⟨?_, ?_,h.h.fr hF (by simp;exact Ne.symm b2) (by simp;exact Ne.symm b3) (by simp;exact Ne.symm b4) (by simp;exact Ne.symm b5),h.cl.fr hF (by simp;exact Ne.symm b6),zL h.wk hF ?_,h.ok,h.wd,h.lo,h.ap,by simpa using h.sl,h.w0,h.ls,h.lf⟩
 ·rw[hF.at h.t (by simp;exact a1)];simp
 ·rw[zD,if_pos rfl,h.s];simp[setObj,List.map_set]
 ·intro y hy;have:=own_ge' h.wk y hy
  simp;omega
theorem TrAt.setLive(h:TrAt w c m n cl wv T)(v:Int):TrAt (w.setCell ⟨c.tb,6,none⟩ (.int .i64 v)) c m n cl wv { T with live:=v }:=by
 have ap:=h.ap;simp only[List.nodup_cons,List.mem_cons,List.not_mem_nil,or_false,not_or]at ap;obtain⟨⟨a1,a2,a3,a4,a5,a6⟩,_⟩:=ap;have hF:Fr [c.tb] w (w.setCell ⟨c.tb,6,none⟩ (.int .i64 v)):=(Fr.refl _ _).setCell (by simp) _;have hlo:=h.lo;refine⟨?_,hF.at h.s (by simp;exact Ne.symm a1),h.h.fr hF (by simp;exact Ne.symm a2) (by simp;exact Ne.symm a3) (by simp;exact Ne.symm a4) (by simp;exact Ne.symm a5),h.cl.fr hF (by simp;exact Ne.symm a6),zL h.wk hF ?_,h.ok,h.wd,h.lo,h.ap,h.sl,h.w0,h.ls,h.lf⟩
 ·rw[zD,if_pos rfl,h.t];rfl
 ·intro y hy;have:=own_ge' h.wk y hy
  simp;omega
theorem TrAt.setArena(h:TrAt w c m n cl wv T){A':Ar}(hA:ArAt w' c.b c.wb c.lb A')(ok:A'.Ok m)(wd:A'.Wd)(hF:Fr [c.lb] w w'):TrAt w' c m n cl wv { T with A:=A' }:=by
 have ap:=h.ap;simp only[List.nodup_cons,List.mem_cons,List.not_mem_nil,or_false,not_or]at ap;obtain⟨⟨a1,a2,a3,a4,a5,a6⟩,⟨b2,b3,b4,b5,b6⟩,⟨d3,d4,d5,d6⟩,⟨e1,e2,e3⟩,⟨f1,f2⟩,g1,_⟩:=ap;have hlo:=h.lo;refine⟨hF.at h.t (by simp;exact a5),hF.at h.s (by simp;exact b5),h.h.arena hF (by simp;exact d5) hA,h.cl.fr hF (by simp;exact Ne.symm g1),zL h.wk hF ?_,ok,wd,h.lo,h.ap,h.sl,h.w0,h.ls,h.lf⟩;intro y hy;have:=own_ge' h.wk y hy
 simp;omega
theorem TrAt.setWork(h:TrAt w c m n cl wv T){S:List Nat}(hF:Fr S w w')(hS: ∀y,y∈S→c.B≤y){wv':Value}{l:List Int}(hl: ∀x,x∈l→0≤x∧x<18446744073709551616)
 (hw:w'.ownsRow c.B 28 1 wv' l.length (l.map (Value.int .u64))):TrAt (w'.setCell ⟨c.tb,5,none⟩ wv') c m n cl wv' { T with work:=l }∧(c.B≤w.heap.size→FB c w (w'.setCell ⟨c.tb,5,none⟩ wv')):=by
 have ap:=h.ap;simp only[List.nodup_cons,List.mem_cons,List.not_mem_nil,or_false,not_or]at ap;obtain⟨⟨a1,a2,a3,a4,a5,a6⟩,⟨b2,b3,b4,b5,b6⟩,⟨d3,d4,d5,d6⟩,⟨e1,e2,e3⟩,⟨f1,f2⟩,g1,_⟩:=ap;have hlo:=h.lo;have hT: ∀y,y<c.B→y∉S:=fun y hy hm=>by have:=hS y hm;omega
 have hF2:Fr [c.tb] w' (w'.setCell ⟨c.tb,5,none⟩ wv'):=(Fr.refl _ _).setCell (by simp) _
 refine⟨⟨?_,hF2.at (hF.at h.s (hT _ (by omega))) (by simp;exact Ne.symm a1),(h.h.fr hF (hT _ (by omega)) (hT _ (by omega)) (hT _ (by omega)) (hT _ (by omega))).fr hF2 (by simp;exact Ne.symm a2) (by simp;exact Ne.symm a3) (by simp;exact Ne.symm a4) (by simp;exact Ne.symm a5),
  (h.cl.fr hF (hT _ (by omega))).fr hF2 (by simp;exact Ne.symm a6),zL hw hF2 ?_,h.ok,h.wd,h.lo,h.ap,h.sl,hl,h.ls,h.lf⟩,fun hB=> ?_⟩
 ·rw[zD,if_pos rfl,hF.at h.t (hT _ (by omega))];rfl
 ·intro y hy;have:=own_ge' hw y hy
  simp;omega
 ·refine FB.of (S:=c.tb::S) ((hF.mono (T:=c.tb::S) (fun x hx=> .inl (List.mem_cons_of_mem _ hx))).trans hF2 (by simp)) hB ?_;intro y hy;rcases List.mem_cons.1 hy with rfl|hy
  ·exact .inl (by simp[Tk.own])
  ·exact .inr (hS y hy)
theorem mark_wd{A:Ar}(wd:A.Wd)(m:Nat)(a k:Int):(A.mark m a k).Wd:=by
 refine wd.of ?_;unfold Ar.mark;split<;>rfl
theorem szI_hAt{A:Ar}{m:Nat}{x:Int}(h:0≤szI A m x): ∃o,hAt A m x=some o∧szI A m x=o.n:=by
 unfold szI at h⊢;cases ho:hAt A m x with
 |none=>rw[ho]at h;simp at h
 |some o=>exact⟨o,rfl,by simp⟩
theorem fresh_bd{A:Ar}{m:Nat}(ok:A.Ok m)(N:Int){k:Nat}(h:(A.fresh m N).2=some k):k+1≤m*256:=by
 have c1:=ok.c1;have c2:=ok.c2;unfold Ar.fresh at h;split at h
 ·simp at h
 ·unfold Ar.freshA at h;split at h
  ·simp at h;omega
  ·cases hb:zV A.lines m with
   |none=>rw[hb]at h;simp at h
   |some q=>
    rw[hb]at h;have:=(zw _ _ _ hb).1;simp at h;omega
theorem moveT_at(ok:T.A.Ok m)(wd:T.A.Wd)(x:Int)(x0:0≤x)(hz:0≤szI T.A m x): ∃a:Nat,(moveT cl m T x).2.1=(a:Int)*8+1∧a<m*256:=by
 obtain⟨o,ho,_⟩:=szI_hAt hz;have hb:=hAt_bd wd x0 ho;have hx: ∃a:Nat,x=(a:Int)*8+1∧a<m*256:=⟨o.a,by omega,hb.1⟩;unfold moveT;split
 ·exact hx
 ·cases hq:(moveF T.A m x).2 with
  |none=>exact hx
  |some y=>
   simp only;unfold moveF at hq;rw[ho]at hq;simp only at hq;split at hq
   ·simp at hq
   ·cases hf:(T.A.fresh m ((o.n:Int)+1)).2 with
    |none=>rw[hf]at hq;simp at hq
    |some k=>
     rw[hf]at hq;have:=fresh_bd ok _ hf;have:=ok.m2;simp only[Option.some.injEq]at hq;exact⟨k,by rw[←hq,mk1 k (by omega)],by omega⟩
set_option maxRecDepth 10000 in
theorem follow_other(h:TrAt w c m n cl wv T)(hB:c.B≤w.heap.size)(x:Int)(x0:0≤x)(x1:x<18446744073709551616)(hx:x%8≠1):
 Calls Tryz.prog 86 #[.pointer (some ⟨c.tb,0,none⟩),.int .u64 x] w (FwDone c m n cl w (zT cl m T x)):=by
 have E:Hid (FwDone c m n cl w (zT cl m T x) (.returned (.int .u64 x)) w):=Lib.hid (by
  unfold zT;rw[if_pos hx];exact⟨rfl,⟨wv,h⟩,FB.refl hB⟩)
 have CK:=Lib.hid (zx x w x0 x1);have hk:(x%8==1)=false:=by simpa using hx
 generalize zT cl m T x=r at*;clear h hB;go_enter Tryz.func86,Tryz.ntmps86;go_wp2_with (go_at_call 48;refine CK.out.mono ?_;rintro e w' ⟨rfl,rfl⟩);go_ret;exact E.out
set_option maxRecDepth 10000 in
theorem follow_moved(h:TrAt w c m n cl wv T)(hB:c.B≤w.heap.size)(x:Int)(x0:0≤x)(x1:x<18446744073709551616)(hx:x%8=1)(y:Int)(hy:movedF T.A m x=some y):
 Calls Tryz.prog 86 #[.pointer (some ⟨c.tb,0,none⟩),.int .u64 x] w (FwDone c m n cl w (zT cl m T x)):=by
 have E:Hid (∀w',Fr [] w w'→FwDone c m n cl w (zT cl m T x) (.returned (.int .u64 y)) w'):=Lib.hid (by
  intro w' hF;unfold zT;rw[if_neg (by simpa using hx),hy];exact⟨rfl,⟨wv,h.keep hF⟩,FB.nil hF hB⟩)
 have CK:=Lib.hid (zx x w x0 x1);have CM:=Lib.hid (omoved_c w h.h h.ok h.wd x x0 x1);have k0:=h.c0;rw[hy]at CM;generalize zT cl m T x=r at*;clear h hB hy;go_enter Tryz.func86,Tryz.ntmps86;go_wp2_with (go_at_call 48;refine CK.out.mono ?_;rintro e w' ⟨rfl,rfl⟩);refine CM.out.mono ?_;rintro e w1 ⟨rfl,F1⟩;simp only[zM];go_wp2;go_ret;exact E.out _ F1
end Go.Proofs.YtghkahcogphomaaGreat
namespace Go.Proofs.YtghkahcogphomaaGreat
open Go.ChangeShapes Go.WideShapes Go.RowKit Go.Maps
variable{w w':World}{c:Tk}{m n:Nat}{cl:Int→Int}{wv:Value}{T:Tr}
set_option maxRecDepth 10000 in
set_option maxHeartbeats 2000000 in
theorem follow_old(h:TrAt w c m n cl wv T)(hB:c.B≤w.heap.size)(x:Int)(x0:0≤x)(x1:x<18446744073709551616)(hx:x%8=1)(hy:movedF T.A m x=none)
 (ho:szI T.A m x<0∨(T.seen.length:Int)≤wVal x∨T.seen[(wVal x).toNat]?.getD true=true):
 Calls Tryz.prog 86 #[.pointer (some ⟨c.tb,0,none⟩),.int .u64 x] w (FwDone c m n cl w (zT cl m T x)):=by
 have E:Hid (∀w',Fr [] w w'→FwDone c m n cl w (zT cl m T x) (.returned (.int .u64 x)) w'):=Lib.hid (by
  intro w' hF;unfold zT;rw[if_neg (by simpa using hx),hy];simp only[if_pos ho];exact⟨rfl,⟨wv,h.keep hF⟩,FB.nil hF hB⟩)
 have CK:=Lib.hid (zx x w x0 x1);have CM:=Lib.hid (omoved_c w h.h h.ok h.wd x x0 x1);have CV:=Lib.hid (fun wa=>value_c x wa x0 x1);have CS:=Lib.hid (fun wa (hF:Fr [] w wa)=>osize_c wa (h.h.keep hF) h.ok h.wd x x0 x1)
 change Hid (∀wa,_→Calls _ _ _ _ fun e w'=>e=.returned (.int .i64 (szI T.A m x))∧Fr [] wa w')at CS
 obtain⟨a,ha⟩: ∃a:Nat,wVal x=a:=⟨(x/8).toNat,by rw[val1 x hx];omega⟩;have hab:a≤2305843009213693952:=by have:=val1 x hx;omega
 rw[ha]at CV ho;rw[Int.toNat_natCast]at ho;have KC:=Lib.hid (fun wa (hF:Fr [] w wa)=>show wa.cell? ⟨c.tb,0,none⟩=some (.pointer (some ⟨c.hb,0,none⟩))∧wa.cell? ⟨c.tb,4,none⟩=some (.slice (some ⟨c.sb,0,none⟩) T.seen.length T.seen.length)from⟨(h.keep hF).c0,(h.keep hF).c4⟩);have KS:=Lib.hid (fun wa (hF:Fr [] w wa) (hi:a<T.seen.length)=>(h.keep hF).cs hi);have hsl:(T.seen.length:Int)≤1048576:=by have:=h.sl;have:=h.ok.m2;omega
 have k0:=h.c0;rw[hy]at CM;have hzb:=szI_b (m:=m) h.wd x0;obtain⟨N,hN⟩: ∃N:Nat,N=T.seen.length:=⟨_,rfl⟩;obtain⟨sn,hsn⟩: ∃s,s=T.seen[a]?.getD true:=⟨_,rfl⟩;rw[←hN]at KC KS ho hsl;rw[←hsn]at ho KS;generalize szI T.A m x=z at*;generalize zT cl m T x=r at*;clear h hB hy hN hsn ha;go_enter Tryz.func86,Tryz.ntmps86;go_wp2_with (go_at_call 48;refine CK.out.mono ?_;rintro e w' ⟨rfl,rfl⟩);refine CM.out.mono ?_;rintro e w1 ⟨rfl,F1⟩;have K1:=KC.out _ F1;simp only[zM];clear CM CK;go_wp2_with fail;go_region_held3 (fun W=>W.cell? ⟨c.tb,0,none⟩=some (.pointer (some ⟨c.hb,0,none⟩))∧W.cell? ⟨c.tb,4,none⟩=some (.slice (some ⟨c.sb,0,none⟩) N N)) (with_reducible first|assumption|exact KC.out _ ‹_›|exact KC.out _ (F1.same (Fr.refl _ _).drew)) (first|(go_at_call 93;refine(CV.out _).mono ?_;rintro e w2 ⟨rfl,rfl⟩)|(go_at_call 104;refine(CS.out _ (Fr.same F1 (by repeat (first|exact Fr.refl _ _|apply Fr.drew)))).mono ?_;rintro e w2 ⟨rfl,F2⟩;have F3:Fr [] w w2:=F1.same (Fr.same (by repeat (first|exact Fr.refl _ _|apply Fr.drew)) F2)));have F3:=Lib.hid F3;obtain⟨q0,q4⟩:=KC.out _ F3.out;have q5:=KS.out _ F3.out;clear F1 F2 K1 k0 CV CS KC KS;rcases Int.lt_or_le z 0 with hz|hz
 ·have hzb':decide (z<0)=true:=by simpa using hz
  go_wp2;go_ret;exact E.out _ F3.out
 ·have hzb':decide (z<0)=false:=by simp;omega
  rcases Nat.lt_or_ge a N with ha|ha
  ·have hs:sn=true:=by rcases ho with h|h|h;omega;omega;exact h
   have q6:=q5 ha;subst hs;clear ho q5;go_wp2;go_ret;exact E.out _ F3.out
  ·clear ho q5;go_wp2;go_ret;exact E.out _ F3.out
end Go.Proofs.YtghkahcogphomaaGreat
namespace Go.Proofs.YtghkahcogphomaaGreat
open Go.ChangeShapes Go.WideShapes Go.RowKit Go.Maps
variable{w w':World}{c:Tk}{m n:Nat}{cl:Int→Int}{wv:Value}{T:Tr}
theorem moveT_same(cl:Int→Int)(m:Nat)(T:Tr)(x:Int):(moveT cl m T x).1.seen=T.seen∧(moveT cl m T x).1.work=T.work∧(moveT cl m T x).1.live=T.live∧(moveT cl m T x).1.least=T.least:=by
 unfold moveT;split
 ·exact⟨rfl,rfl,rfl,rfl⟩
 ·cases (moveF T.A m x).2<;>exact⟨rfl,rfl,rfl,rfl⟩
theorem TrAt.buildWork(h:TrAt w c m n cl wv T)(y:Int):(w.alloc (.cells #[.int .u64 y] 28)).ownsRow c.B 28 1 wv T.work.length (T.work.map (Value.int .u64)):=zL h.wk ((Fr.refl [] _).alloc _) (by simp)
set_option maxRecDepth 10000 in
set_option maxHeartbeats 4000000 in
theorem follow_new(h:TrAt w c m n cl wv T)(hB:c.B≤w.heap.size)(bd:T.Bd)(x:Int)(x0:0≤x)(x1:x<18446744073709551616)(hx:x%8=1)(hy:movedF T.A m x=none)
 (hz0:0≤szI T.A m x) (hwx:wVal x<(T.seen.length:Int)) (hsx:T.seen[(wVal x).toNat]?.getD true=false):
 Calls Tryz.prog 86 #[.pointer (some ⟨c.tb,0,none⟩),.int .u64 x] w (FwDone c m n cl w (zT cl m T x)):=by
 obtain⟨i0,hi,hz1,hz2,hz3⟩:=info_parts info_word;have HI:=Lib.hid hi;have Z0:=Lib.hid hz1;have Z1:=Lib.hid hz2;have Z2:=Lib.hid hz3;obtain⟨b1,b2,b3⟩:=bd;have hzb:=szI_b (m:=m) h.wd x0;obtain⟨a1,hya,ha1⟩:=moveT_at (cl:=cl) h.ok h.wd x x0 hz0;obtain⟨s1,s2,s3,s4⟩:=moveT_same cl m T x;have hm2:=h.ok.m2;have hsl':=h.sl
 have FT:Hid (∀w' wv',TrAt w' c m n cl wv' {(moveT cl m T x).1 with A:=(moveT cl m T x).1.A.mark m a1 (szI T.A m x+1),seen:=(moveT cl m T x).1.seen.set a1 true,live:=T.live+1,work:=T.work++[(moveT cl m T x).2.1]}→FB c w w'→FwDone c m n cl w (zT cl m T x) (.returned (.int .u64 (moveT cl m T x).2.1)) w'):=Lib.hid (by
  intro w' wv' ht hF;have hv:wVal (moveT cl m T x).2.1=a1:=by rw[hya,val1 _ (by omega)];omega
  unfold zT;rw[if_neg (by simpa using hx),hy];simp only[];rw[if_neg (by rw[hsx];simp;omega),hv,Int.toNat_natCast,s3,s2];exact⟨rfl,⟨wv',ht⟩,hF⟩)
 have CK:=Lib.hid (zx x w x0 x1);have CM:=Lib.hid (omoved_c w h.h h.ok h.wd x x0 x1);have CV:=Lib.hid (fun wa=>value_c x wa x0 x1);have CS:=Lib.hid (fun wa (hF:Fr [] w wa)=>osize_c wa (h.h.keep hF) h.ok h.wd x x0 x1)
 change Hid (∀wa,_→Calls _ _ _ _ fun e w'=>e=.returned (.int .i64 (szI T.A m x))∧Fr [] wa w')at CS
 have CMV:=Lib.hid (fun wa (hF:Fr [] w wa)=>move_c (h.keep hF) x hx x0 x1 b2);obtain⟨a,ha⟩: ∃a:Nat,wVal x=a:=⟨(x/8).toNat,by rw[val1 x hx];omega⟩;have hab:a≤2305843009213693952:=by have:=val1 x hx;omega
 rw[ha]at CV hwx hsx;rw[Int.toNat_natCast]at hsx;have KC:=Lib.hid (fun wa (hF:Fr [] w wa)=>show wa.cell? ⟨c.tb,0,none⟩=some (.pointer (some ⟨c.hb,0,none⟩))∧wa.cell? ⟨c.tb,4,none⟩=some (.slice (some ⟨c.sb,0,none⟩) T.seen.length T.seen.length)∧wa.cell? ⟨c.sb,a,none⟩=some (.bool (T.seen[a]?.getD true))from⟨(h.keep hF).c0,(h.keep hF).c4,(h.keep hF).cs (by omega)⟩);have hsl:(T.seen.length:Int)≤1048576:=by omega
 have k0:=h.c0;rw[hy]at CM;rw[hsx]at KC;rcases hq:moveT cl m T x with⟨T1,y,mb⟩
 rw[hq]at FT hya s1 s2 s3 s4;simp only[]at hya s1 s2 s3 s4;replace CMV:Hid (∀wa,Fr [] w wa→Calls Tryz.prog 111 #[.pointer (some ⟨c.tb,0,none⟩),.int .u64 x] wa (MvDone c m n cl wv wa (T1,y,mb))):=Lib.hid (fun wa hF=>by have:=CMV.out wa hF;rw[hq]at this;exact this);obtain⟨N,hN⟩: ∃N:Nat,N=T.seen.length:=⟨_,rfl⟩;have hN1:T1.seen.length=N:=by rw[s1,hN]
 have hw1:T1.work.length<2000000:=by rw[s2];exact b3
 have hl1:T1.live=T.live:=s3;have HL:=Lib.hid s2;obtain⟨lv,hlv⟩: ∃l,l=T.live:=⟨_,rfl⟩;rw[←hlv]at hl1 b1 FT;rw[←hN]at KC hwx hsl;have haN:a1<N:=by omega
 have y0:0≤y∧y<18446744073709551616:=by omega
 have CVY:Hid (∀wa,Calls Tryz.prog 93 #[.int .u64 y] wa fun e w'=>e=.returned (.int .i64 (a1:Int))∧wa=w'):=Lib.hid (fun wa=>by
  have:=value_c y wa y0.1 y0.2
  rwa[show wVal y=(a1:Int) by rw[hya,val1 _ (by omega)];omega]at this)
 have HB:=Lib.hid hB;generalize szI T.A m x=z at*;generalize zT cl m T x=r at*;clear h hB hy hN hsx ha hq s1 s2 s3 s4 hya hlv hsl';have hzd:decide (z<0)=false:=by simp;omega
 go_enter Tryz.func86,Tryz.ntmps86;go_wp2_with (go_at_call 48;refine CK.out.mono ?_;rintro e w' ⟨rfl,rfl⟩);refine CM.out.mono ?_;rintro e w1 ⟨rfl,F1⟩;have K1:=KC.out _ F1;simp only[zM];clear CM CK;go_wp2_with fail;go_region_held3 (fun W=>W.cell? ⟨c.tb,0,none⟩=some (.pointer (some ⟨c.hb,0,none⟩))∧W.cell? ⟨c.tb,4,none⟩=some (.slice (some ⟨c.sb,0,none⟩) N N)∧W.cell? ⟨c.sb,a,none⟩=some (.bool false)) (with_reducible first|assumption|exact KC.out _ ‹_›|exact KC.out _ (F1.same (Fr.refl _ _).drew)) (first|(go_at_call 93;refine(CV.out _).mono ?_;rintro e w2 ⟨rfl,rfl⟩)|(go_at_call 104;refine(CS.out _ (Fr.same F1 (by repeat (first|exact Fr.refl _ _|apply Fr.drew)))).mono ?_;rintro e w2 ⟨rfl,F2⟩;have F3:Fr [] w w2:=F1.same (Fr.same (by repeat (first|exact Fr.refl _ _|apply Fr.drew)) F2)));have F3:=Lib.hid F3;obtain⟨q0,q4,q5⟩:=KC.out _ F3.out;clear F1 F2 K1 k0 CV CS KC;go_wp2_with fail;refine(CMV.out _ F3.out).mono ?_;rintro e w3 ⟨rfl,H3,F4⟩;have F4:Hid (FB c w w3):=Lib.hid ((FB.nil F3.out HB.out).trans (FB.of F4 (Nat.le_trans HB.out F3.out.size) (by simp[Tk.own])));have H3:=Lib.hid H3;have k0:=H3.out.c0;have k4:=H3.out.c4;rw[hN1]at k4;have ks:=H3.out.cs (i:=a1) (by rw[hN1];exact haN);have kf:=H3.out.fs a1;clear CMV F3 q0 q4 q5;have H4:=Lib.hid (H3.out.setSeen a1);have F5:Hid (FB c w (w3.setCell ⟨c.sb,a1,none⟩ (.bool true))):=Lib.hid (F4.out.trans (FB.of (S:=[c.sb]) ((Fr.refl _ _).setCell (by simp) _) F4.out.ge (by simp[Tk.own])));have k1:=H4.out.c0;go_wp2_with (go_at_call 93;refine(CVY.out _).mono ?_;rintro e w' ⟨rfl,rfl⟩);refine(oarena_c _ H4.out.h).mono ?_;rintro e w' ⟨rfl,rfl⟩;go_wp2_with fail;refine(mark_c _ H4.out.h.ar H4.out.ok a1 (z+1) (by omega) (by omega)).mono ?_;rintro e w5 ⟨rfl,hA5,hF5⟩;have H5:=Lib.hid (H4.out.setArena hA5 (H4.out.ok.mark _ _) (mark_wd H4.out.wd _ _ _) hF5);have F6:Hid (FB c w w5):=Lib.hid (F5.out.trans (FB.of hF5 F5.out.ge (by simp[Tk.own])));clear H3 H4 F4 F5 k0 k1 k4 ks kf hA5 hF5 CVY;have k6:=H5.out.c6;simp only[]at k6;rw[hl1]at k6;have f6:=H5.out.ft 6;have H6:=Lib.hid (H5.out.setLive (lv+1));have F7:Hid (FB c w (w5.setCell ⟨c.tb,6,none⟩ (.int .i64 (lv+1)))):=Lib.hid (F6.out.trans (FB.of (S:=[c.tb]) ((Fr.refl _ _).setCell (by simp) _) F6.out.ge (by simp[Tk.own])));have k7:=H6.out.c5;have OW:=Lib.hid (H6.out.buildWork y);obtain⟨wl,hwl⟩: ∃l,l=T1.work:=⟨_,rfl⟩;have HLw:=Lib.hid hwl;simp only[]at OW;rw[←hwl]at OW hw1
 have CE:Hid (∀j u,[Value.int .u64 y][j]? =some u→((w5.setCell ⟨c.tb,6,none⟩ (.int .i64 (lv+1))).alloc (.cells #[.int .u64 y] 28)).cell? ((⟨w5.heap.size,0,none⟩:Addr).add j)=some u):=Lib.hid (fun j u hu=>by
  have hj:j=0:=by
   rcases j with _|j
   ·rfl
   ·simp at hu
  subst hj;simp only[List.getElem?_cons_zero,Option.some.injEq]at hu;subst hu;exact zA (c:= #[.int .u64 y]) (t:=28) (by rw[zB,if_pos (size_set _ _ _).symm]) rfl)
 have hBs:c.B≤((w5.setCell ⟨c.tb,6,none⟩ (.int .i64 (lv+1))).alloc (.cells #[.int .u64 y] 28)).heap.size:=by have:=F7.out.ge;rw[zC];omega
 have F8:Hid (FB c w ((w5.setCell ⟨c.tb,6,none⟩ (.int .i64 (lv+1))).alloc (.cells #[.int .u64 y] 28))):=Lib.hid (F7.out.trans (FB.nil ((Fr.refl _ _).alloc _) F7.out.ge));have H8:=Lib.hid (H6.out.keep ((Fr.refl [] _).alloc (.cells #[.int .u64 y] 28)));have k8:=H8.out.c5;have f8:=H8.out.ft 5;have hwl2:(wl.map (Value.int .u64))++[.int .u64 y]=(wl++[y]).map (Value.int .u64):=by simp
 have HW2:=Lib.hid hwl2;have G8:=Lib.hid H8.out.ge
 have W8:Hid (∀q,q∈wl++[y]→0≤q∧q<18446744073709551616):=Lib.hid (fun q hq=>by
  rcases List.mem_append.1 hq with hq|hq
  ·exact H8.out.w0 q (by rw[hwl]at hq;exact hq)
  ·simp at hq;subst hq;exact y0)
 clear H5 H6 F6 F7 hwl hwl2;go_wp2_with (at_builtin;refine wpList_append_own _ rfl _ _ 29 rfl c.B 28 i0 (.int .u64 0) 1 8 Tryz.underlying29 HI.out Z0.out Z1.out Z2.out rfl (by decide) wv wl.length (wl.map (Value.int .u64)) rfl OW.out ⟨w5.heap.size,0,none⟩ 1 1 [.int .u64 y] rfl rfl CE.out (by simp[Value.oneCell']) (by unfold maxLen;omega) (by omega) hBs ?_;intro v' w9 hown hgrow hnil;obtain⟨g5,cap5,hv5,_,_⟩:=hown.form (by omega);subst hv5;have k9:w9.cell? ⟨c.tb,5,none⟩=some wv:=cell_fr k8 (grown_fr hgrow) (fun hm=>by have:=G8.out _ hm;have:=H8.out.lo;omega);have f9:w9.frozen? ⟨c.tb,5,none⟩=false:=(by have:=(grown_fr hgrow).at H8.out.t (fun hm=>by have:=G8.out _ hm;have:=H8.out.lo;omega);exact zE this);have hown:=Lib.hid hown;have hgrow:=Lib.hid hgrow;clear hnil);have hown:Hid (w9.ownsRow c.B 28 1 (.slice (some ⟨g5,0,none⟩) (wl.length+1) cap5) (wl++[y]).length ((wl++[y]).map (Value.int .u64))):=Lib.hid (by have:=hown.out;rw[HW2.out]at this;simpa using this);have HF:=H8.out.setWork (grown_fr hgrow.out) G8.out W8.out hown.out
 have E:Hid (FwDone c m n cl w r (.returned (.int .u64 y)) (w9.setCell ⟨c.tb,5,none⟩ (.slice (some ⟨g5,0,none⟩) (wl.length+1) cap5))):=Lib.hid (FT.out _ _ (by
  rw[show T.work=wl from(HLw.out.trans HL.out).symm];exact HF.1) (F8.out.trans (HF.2 F8.out.ge)))
 clear HF hown hgrow FT H8 F8 CE OW W8 G8 k8 f8 k7;go_wp2;go_ret;exact E.out
theorem follow_c(h:TrAt w c m n cl wv T)(hB:c.B≤w.heap.size)(bd:T.Bd)(x:Int)(x0:0≤x)(x1:x<18446744073709551616):
 Calls Tryz.prog 86 #[.pointer (some ⟨c.tb,0,none⟩),.int .u64 x] w (FwDone c m n cl w (zT cl m T x)):=by
 by_cases hx:x%8=1
 ·cases hy:movedF T.A m x with
  |some y=>exact follow_moved h hB x x0 x1 hx y hy
  |none=>
   by_cases ho:szI T.A m x<0∨(T.seen.length:Int)≤wVal x∨T.seen[(wVal x).toNat]?.getD true=true
   ·exact follow_old h hB x x0 x1 hx hy ho
   ·simp only[not_or,Bool.not_eq_true]at ho;exact follow_new h hB bd x x0 x1 hx hy (by omega) (by omega) ho.2.2
 ·exact follow_other h hB x x0 x1 hx
end Go.Proofs.YtghkahcogphomaaGreat
namespace Go.Proofs.YtghkahcogphomaaGreat
open Go.ChangeShapes Go.WideShapes Go.RowKit Go.Maps
variable{w w':World}{c:Tk}{m n:Nat}{cl:Int→Int}{wv:Value}{T:Tr}
def kdI(A:Ar)(m:Nat)(x:Int):Int:=((hAt A m x).map fun h=>(h.kind:Int)).getD (-1)
def countF(k n u:Int):Int:=
 if 16≤k∧k<32 then 0 else
 if k≠15∨n<2 then n else
 if u%8≠0∨wVal u<0 then 2 else 2+min (wVal u) (n-2)
def countedF(A:Ar)(m:Nat)(x:Int):Int:=countF (kdI A m x) (szI A m x) (getF A m x 1).1
theorem kdI_b(wd:T.A.Wd){x:Int}(x0:0≤x): -1≤kdI T.A m x∧kdI T.A m x<32:=by
 unfold kdI;cases ho:hAt T.A m x with
 |none=>simp
 |some o=>have:=(hAt_bd wd x0 ho).2.1;simp;omega
theorem getF_w{A:Ar}(wd:A.Wd)(m:Nat)(x i:Int):0≤(getF A m x i).1∧(getF A m x i).1<18446744073709551616:=by
 unfold getF;cases hAt A m x with
 |none=>simp
 |some o=>
  simp only;split
  ·simp
  ·exact wd.at _
set_option maxRecDepth 10000 in
set_option maxHeartbeats 4000000 in
theorem counted_c(h:TrAt w c m n cl wv T)(x:Int)(x0:0≤x)(x1:x<18446744073709551616):
 Calls Tryz.prog 113 #[.pointer (some ⟨c.tb,0,none⟩),.int .u64 x] w fun e w'=>e=.returned (.int .i64 (countedF T.A m x))∧Fr [] w w':=by
 have CS:=Lib.hid (fun wa (hF:Fr [] w wa)=>osize_c wa (h.h.keep hF) h.ok h.wd x x0 x1);have CK:=Lib.hid (fun wa (hF:Fr [] w wa)=>okind_c wa (h.h.keep hF) h.ok h.wd x x0 x1)
 change Hid (∀wa,_→Calls _ _ _ _ fun e w'=>e=.returned (.int .i64 (szI T.A m x))∧Fr [] wa w')at CS
 change Hid (∀wa,_→Calls _ _ _ _ fun e w'=>e=.returned (.int .i64 (kdI T.A m x))∧Fr [] wa w')at CK
 have CG:=Lib.hid (fun wa (hF:Fr [] w wa)=>oget_c wa (h.h.keep hF) h.ok h.wd x 1 x0 x1 (by omega));have hzb:=szI_b (m:=m) h.wd x0;have hkb:=kdI_b (m:=m) h.wd x0;have hub:=getF_w h.wd m x 1;have k0:=h.c0;have KC:=Lib.hid (fun wa (hF:Fr [] w wa)=>(h.keep hF).c0);unfold countedF;generalize szI T.A m x=z at*;generalize kdI T.A m x=k at*;generalize getF T.A m x 1=gu at*;obtain⟨u,ue⟩:=gu;simp only[]at hub CG⊢;have CU:=Lib.hid (fun wa=>zx u wa hub.1 hub.2);have CV:=Lib.hid (fun wa=>value_c u wa hub.1 hub.2);have hvb: -1152921504606846976≤wVal u∧wVal u≤2305843009213693952:=by unfold wVal;split<;>omega
 have EC:Hid (∀v,v=countF k z u→v=countF k z u):=Lib.hid (fun v h=>h);have EF:=Lib.hid (show∀v:Int,v=(if 16≤k∧k<32 then 0 else if k≠15∨z<2 then z else if u%8≠0∨wVal u<0 then 2 else 2+min (wVal u) (z-2))→v=countF k z u from fun v h=>h);generalize countF k z u=cf at*;generalize wVal u=uv at*;clear h;go_enter Tryz.func113,Tryz.ntmps113;go_wp2_with fail;go_region_held3 (fun W=>W.cell? ⟨c.tb,0,none⟩=some (.pointer (some ⟨c.hb,0,none⟩))) (with_reducible first|assumption|exact KC.out _ GF|exact KC.out _ (Fr.refl _ _).drew) (first|(go_at_call 103;refine(CK.out _ (by repeat (first|exact Fr.refl _ _|exact GF|apply Fr.drew))).mono ?_;rintro e w2 ⟨rfl,F2⟩;have GF:Fr [] w w2:=Fr.same (by repeat (first|exact Fr.refl _ _|exact GF|apply Fr.drew)) F2)|(go_at_call 104;refine(CS.out _ (by repeat (first|exact Fr.refl _ _|exact GF|apply Fr.drew))).mono ?_;rintro e w2 ⟨rfl,F2⟩;have GF:Fr [] w w2:=Fr.same (by repeat (first|exact Fr.refl _ _|exact GF|apply Fr.drew)) F2));have GF:=Lib.hid GF;have k1:=KC.out _ GF.out;have RC:=raw_c w2 k;clear CS CK KC F2 k0;by_cases hr:16≤k∧k<32
 ·have hd:decide (16≤k∧k<32)=true:=by simpa using hr
  rw[hd]at RC;have hv:=Lib.hid (show(0:Int)=cf from EF.out _ (by rw[if_pos hr]));clear EF EC CG CU CV hr;go_wp2_with (go_at_call 96;refine RC.mono ?_;rintro e w' ⟨rfl,rfl⟩);go_ret;exact⟨ret_int (by have:=hv.out;omega),GF.out⟩
 ·have hd:decide (16≤k∧k<32)=false:=by simpa using hr
  rw[hd]at RC;rw[if_neg hr]at EF;by_cases hk:k=15
  ·have hkb':(k==15)=true:=by simpa using hk
   by_cases hz:z<2
   ·have hzd:decide (z<2)=true:=by simpa using hz
    have hv:=Lib.hid (show z=cf from EF.out _ (by rw[if_pos (.inr hz)]));clear EF EC CG CU CV hr;subst hk;go_wp2_with (go_at_call 96;refine RC.mono ?_;rintro e w' ⟨rfl,rfl⟩);go_ret;exact⟨ret_int (by have:=hv.out;omega),GF.out⟩
   ·have hzd:decide (z<2)=false:=by simpa using hz
    rw[if_neg (by omega)]at EF;have CG1:=CG.out _ GF.out;subst hk;clear hr CG EC;by_cases hu:u%8=0
    ·have hub':(u%8==0)=true:=by simpa using hu
     by_cases hn:uv<0
     ·have hv:=Lib.hid (show(2:Int)=cf from EF.out _ (by rw[if_pos (.inr hn)]));have hnd:decide (uv<0)=true:=by simpa using hn
      clear EF;go_wp2_with (go_at_call 96;refine RC.mono ?_;rintro e w' ⟨rfl,rfl⟩);refine CG1.mono ?_;rintro e w3 ⟨rfl,F3⟩;go_wp2_with (first|(go_at_call 48;refine(CU.out _).mono ?_;rintro e w' ⟨rfl,rfl⟩)|(go_at_call 93;refine(CV.out _).mono ?_;rintro e w' ⟨rfl,rfl⟩))
      all_goals(try go_wp2)
      all_goals go_ret
      all_goals exact⟨ret_int (by have:=hv.out;omega),GF.out.same F3⟩
     ·have hv:=Lib.hid (show 2+min uv (z-2)=cf from EF.out _ (by rw[if_neg (by omega)]));have hnd:decide (uv<0)=false:=by simpa using hn
      clear EF;go_wp2_with (go_at_call 96;refine RC.mono ?_;rintro e w' ⟨rfl,rfl⟩);refine CG1.mono ?_;rintro e w3 ⟨rfl,F3⟩;go_wp2_with (first|(go_at_call 48;refine(CU.out _).mono ?_;rintro e w' ⟨rfl,rfl⟩)|(go_at_call 93;refine(CV.out _).mono ?_;rintro e w' ⟨rfl,rfl⟩))
      all_goals(try go_wp2)
      all_goals go_ret
      all_goals exact⟨ret_int (by have:=hv.out;omega),GF.out.same F3⟩
    ·have hub':(u%8==0)=false:=by simpa using hu
     have hv:=Lib.hid (show(2:Int)=cf from EF.out _ (by rw[if_pos (.inl hu)]));clear EF;go_wp2_with (go_at_call 96;refine RC.mono ?_;rintro e w' ⟨rfl,rfl⟩);refine CG1.mono ?_;rintro e w3 ⟨rfl,F3⟩;go_wp2_with (first|(go_at_call 48;refine(CU.out _).mono ?_;rintro e w' ⟨rfl,rfl⟩)|(go_at_call 93;refine(CV.out _).mono ?_;rintro e w' ⟨rfl,rfl⟩));go_ret;exact⟨ret_int (by have:=hv.out;omega),GF.out.same F3⟩
  ·have hkb':(k==15)=false:=by simpa using hk
   have hv:=Lib.hid (show z=cf from EF.out _ (by rw[if_pos (.inl hk)]));clear EF EC CG CU CV hr;go_wp2_with (go_at_call 96;refine RC.mono ?_;rintro e w' ⟨rfl,rfl⟩);go_ret;exact⟨ret_int (by have:=hv.out;omega),GF.out⟩
end Go.Proofs.YtghkahcogphomaaGreat
namespace Go.Proofs.YtghkahcogphomaaGreat
open Go.ChangeShapes Go.WideShapes Go.RowKit Go.Maps
variable{w w':World}{c:Tk}{m n:Nat}{cl:Int→Int}{wv:Value}{T:Tr}
def scan1(cl:Int→Int)(m:Nat)(x:Int)(T:Tr)(i:Int):Tr:=
 if(zT cl m T (getF T.A m x i).1).2=(getF T.A m x i).1 then(zT cl m T (getF T.A m x i).1).1 else
 {(zT cl m T (getF T.A m x i).1).1 with A:=(setF (zT cl m T (getF T.A m x i).1).1.A m x i (zT cl m T (getF T.A m x i).1).2).1 }
def scanN(cl:Int→Int)(m:Nat)(x:Int)(T:Tr):Nat→Tr
 |0=>T
 |k+1=>scan1 cl m x (scanN cl m x T k) k
def scanT(cl:Int→Int)(m:Nat)(x:Int)(T:Tr):Tr:=scanN cl m x T (countedF T.A m x).toNat
theorem setF_wd'{A:Ar}(wd:A.Wd)(m:Nat)(x i:Int){v:Int}(h0:0≤v)(h1:v<18446744073709551616):(setF A m x i v).1.Wd:=by
 unfold setF;cases hAt A m x with
 |none=>exact wd
 |some o=>
  simp only;split
  ·exact wd
  ·exact wd.set _ _ h0 h1
theorem movedF_w{A:Ar}(wd:A.Wd){m:Nat}{x y:Int}(h:movedF A m x=some y):0≤y∧y<18446744073709551616:=by
 unfold movedF at h;split at h
 ·have:=wd.at (x/8).toNat;simp only[Option.some.injEq]at h;rw[←h];unfold mkW;omega
 ·cases h
theorem followT_w(ok:T.A.Ok m)(wd:T.A.Wd)(x:Int)(x0:0≤x)(x1:x<18446744073709551616):0≤(zT cl m T x).2∧(zT cl m T x).2<18446744073709551616:=by
 unfold zT;split
 ·exact⟨x0,x1⟩
 ·cases hy:movedF T.A m x with
  |some y=>exact movedF_w wd hy
  |none=>
   simp only;split
   ·exact⟨x0,x1⟩
   ·rename_i h
    obtain⟨a,h1,h2⟩:=moveT_at (cl:=cl) ok wd x x0 (by omega);have:=ok.m2;simp only;rw[h1];omega
theorem TrAt.hset(h:TrAt w c m n cl wv T)(x i v:Int)(v0:0≤v)(v1:v<18446744073709551616){r:Value}{e:Ending}(hd:HDone c.hb c.b c.wb c.lb w (setF T.A m x i v).1 r e w')(hB:c.B≤w.heap.size):
 TrAt w' c m n cl wv { T with A:=(setF T.A m x i v).1 }∧FB c w w':=by
 obtain⟨_,hH,hF⟩:=hd;have:=h.mv0 (Fr.refl _ _) hF hH (setF_ok h.ok x i v) (setF_wd' h.wd m x i v0 v1);exact⟨this.1,FB.of this.2 hB (by simp[Tk.own])⟩
set_option maxRecDepth 10000 in
set_option maxHeartbeats 4000000 in
theorem scan_c(h:TrAt w c m n cl wv T)(hB:c.B≤w.heap.size)(x:Int)(x0:0≤x)(x1:x<18446744073709551616)(bd: ∀k:Nat,(k:Int)<countedF T.A m x→(scanN cl m x T k).Bd):
 Calls Tryz.prog 87 #[.pointer (some ⟨c.tb,0,none⟩),.int .u64 x] w fun e w'=>e=.returned (.tuple #[])∧(∃wv',TrAt w' c m n cl wv' (scanT cl m x T))∧FB c w w':=by
 have CC:=Lib.hid (counted_c h x x0 x1);have H:=Lib.hid h;have HB:=Lib.hid hB;have HBd:=Lib.hid bd;obtain⟨cn,hcn⟩: ∃cn,cn=countedF T.A m x:=⟨_,rfl⟩
 have hcb:cn≤9007199254740992:=by
  rw[hcn];unfold countedF countF;have:=szI_b (m:=m) h.wd x0;split
  ·omega
  ·split
   ·omega
   ·split<;>omega
 have ST:Hid (scanT cl m x T=scanN cl m x T cn.toNat):=Lib.hid (by unfold scanT;rw[hcn]);rw[←hcn]at CC HBd;clear h hB bd hcn;go_enter Tryz.func87,Tryz.ntmps87;go_wp2_with fail;refine CC.out.mono ?_;rintro e w1 ⟨rfl,F1⟩;have H1:Hid (TrAt w1 c m n cl wv (scanN cl m x T 0)):=Lib.hid (H.out.keep F1);have F1:Hid (FB c w w1):=Lib.hid (FB.nil F1 HB.out);clear CC H;go_wp2_with fail;go_loopw [11] (fun y wr=> ∃(k:Nat) (wv:Value),(k:Int)≤max cn 0∧y=.int .i64 k∧Hid (TrAt wr c m n cl wv (scanN cl m x T k))∧Hid (FB c w wr)) (fun y _=>cn.toNat-(intOf y).toNat)
 case atStart=>exact⟨0,wv,by omega,rfl,H1,F1⟩
 case round=>
  obtain⟨k,wv',hk,rfl,HT,F⟩:=hrel;clear H1 F1;by_cases hlt:(k:Int)<cn
  ·have hbd:=Lib.hid (HBd.out k hlt);have CG:=Lib.hid (oget_c wr HT.out.h HT.out.ok HT.out.wd x k x0 x1 (by omega));have k0:=HT.out.c0;have NX:Hid (scanN cl m x T (k+1)=scan1 cl m x (scanN cl m x T k) k):=Lib.hid rfl;obtain⟨T1,hT1⟩: ∃T1,T1=scanN cl m x T k:=⟨_,rfl⟩;rw[←hT1]at HT hbd CG NX;obtain⟨T2,hT2⟩: ∃T2,T2=scanN cl m x T (k+1):=⟨_,rfl⟩;rw[←hT2]at NX;have REL:Hid (∀wq wv,TrAt wq c m n cl wv T2→TrAt wq c m n cl wv (scanN cl m x T (k+1))):=Lib.hid (fun wq wv h=>by rw[←hT2];exact h);have vb:=getF_w HT.out.wd m x k;unfold scan1 at NX;rcases hg:getF T1.A m x k with⟨v,ve⟩
   rw[hg]at CG NX vb;simp only[]at CG NX vb;clear hT1 hT2 hg;go_wp2_with fail;refine CG.out.mono ?_;rintro e w2 ⟨rfl,F2⟩;have HT2:=Lib.hid (HT.out.keep F2);have F3:Hid (FB c w w2):=Lib.hid (F.out.trans (FB.nil F2 F.out.ge));have CF:=Lib.hid (follow_c HT2.out F3.out.ge hbd.out v vb.1 vb.2);have yb:=followT_w (cl:=cl) HT2.out.ok HT2.out.wd v vb.1 vb.2;rcases hq:zT cl m T1 v with⟨T3,y⟩
   rw[hq]at CF NX yb;simp only[]at NX yb;clear CG F HT hq k0 F2;go_wp2_with fail;refine CF.out.mono ?_;rintro e w3 ⟨rfl,⟨wv3,HT3⟩,F4⟩;have HT3:=Lib.hid HT3;have F4:=Lib.hid (F3.out.trans F4);simp only[]at HT3⊢;clear CF F3 HT2 hbd;by_cases hyv:y=v
   ·have REL2:Hid (TrAt w3 c m n cl wv3 (scanN cl m x T (k+1))):=Lib.hid (REL.out _ _ (by rw[NX.out,if_pos hyv];exact HT3.out));have hyb:(y==v)=true:=by simpa using hyv
    clear NX REL HT3 hyv;go_wp2;go_roundw
    case rel=>exact⟨k+1,wv3,by omega,by go_num,REL2,F4⟩
    case measure=>simp[intOf];omega
   ·have CS:=Lib.hid (oset_c w3 HT3.out.h HT3.out.ok HT3.out.wd x k y x0 x1 (by omega));have HS:=Lib.hid (fun e w' hd=>HT3.out.hset (w':=w') (e:=e) (r:=.int .i64 (setF T3.A m x k y).2) x k y yb.1 yb.2 hd F4.out.ge);have k0:=HT3.out.c0;have hyb:(y==v)=false:=by simpa using hyv
    have REL2:Hid (∀wq wv,TrAt wq c m n cl wv { T3 with A:=(setF T3.A m x k y).1 }→TrAt wq c m n cl wv (scanN cl m x T (k+1))):=Lib.hid (fun wq wv h=>REL.out _ _ (by rw[NX.out,if_neg hyv];exact h));rcases hq:setF T3.A m x k y with⟨A',er⟩
    rw[hq]at CS HS REL2;simp only[]at CS HS REL2;clear NX REL HT3 hyv hq;go_wp2_with fail;refine CS.out.mono ?_;intro e w4 hd;have he:=hd.1;have HH:=HS.out _ _ hd;have HT4:=Lib.hid (REL2.out _ _ HH.1);have F5:=Lib.hid (F4.out.trans HH.2);subst he;clear hd HH CS HS REL2 F4 k0;go_wp2;go_roundw
    case rel=>exact⟨k+1,wv3,by omega,by go_num,HT4,F5⟩
    case measure=>simp[intOf];omega
  ·have hkc:k=cn.toNat:=by omega
   have E:Hid ((∃wv',TrAt wr c m n cl wv' (scanT cl m x T))∧FB c w wr):=Lib.hid ⟨⟨wv',by rw[ST.out,←hkc];exact HT.out⟩,F.out⟩;clear HT F ST hkc;go_wp2
   go_end0
   exact⟨rfl,E.out⟩
end Go.Proofs.YtghkahcogphomaaGreat
end
