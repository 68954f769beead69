/- Fibers: a part of the walk. No condition. -/
import Derived.Test.YtghkahcogphomaaGreatQk22
set_option linter.all false
namespace Go.Proofs.YtghkahcogphomaaGreat
section
variable{A A':Ar}{m:Nat}{M M' M'':Mem}{x y s prev below hand hd l0 b top:Int}{cap:Nat}{f f':Frm}{fs r0 r:List Frm}{fp fp' fq:List Int}{p q:PF}{h0:Option PH}{l:List PF}{k:PK}{rs:List Int}{ts:List (Option (List PF))}
theorem Hq.back(h:Hq A m M')(ho:Off [] M M'):Hq A m M:=h.less (fun x o hx=>ho x o (by simp) hx)
theorem Rep.off0(h:Rep M top k rs)(ho:Off [] M M'):Rep M' top k rs:=by
 obtain⟨⟨f1,f2,h1,h2,h3⟩,h4⟩:=h;exact⟨⟨f1,f2,RC.off ho ho.k80 h1 (by simp),RTs.off ho ho.k80 h2 (by simp),h3⟩,h4⟩
theorem Rep.w(h:Rep M top k rs)(hp:Hq A m M):W64 top∧top%8=1:=by
 obtain⟨⟨f1,f2,h1,h2,h3⟩,h4⟩:=h;obtain⟨fs,ts⟩:=k;cases fs with
 |nil=>exact absurd rfl h4
 |cons p l=>
  obtain⟨y,g1,g2,h5,_⟩:=h1;exact⟨h5.w hp,h5.tag hp⟩
theorem Rep.rsw(h:Rep M top k rs)(hp:Hq A m M):(∀r,r∈rs→W64 r∧r%8=1)∧rs.length=k.tk.length:=by
 obtain⟨⟨f1,f2,h1,h2,h3⟩,h4⟩:=h;refine⟨?_,RTs.len h2⟩;clear h1 h3 h4
 revert h2
 generalize k.tk=ts
 induction ts generalizing rs f2 with
 |nil=>rintro⟨rfl,_⟩;simp
 |cons t ts ih=>
  rintro⟨r,rs',f1,f3,rfl,h1,h2,rfl,h4⟩ z hz;rcases List.mem_cons.1 hz with rfl|hz
  ·have:=h1.ww hp;exact⟨this.1,this.2.1⟩
  ·exact ih _ h2 z hz
theorem RC.head{e:Int}(h:RC M e l x fp)(hp:Hq A m M):(l=[]∧x=e)∨(l≠[]∧W64 x∧x%8=1):=by
 cases l with
 |nil=>exact .inl ⟨rfl,h.1⟩
 |cons p l=>
  obtain⟨y,g1,g2,h5,_⟩:=h;exact .inr ⟨by simp,h5.w hp,h5.tag hp⟩
theorem Rep.enter(h:Rep M top k rs)(hp:Hq A m M)(H:PH)(hH:H.Ok):
 ((objF A m 8 (entL H.deep H.ret H.ls H.ps H.ls.length)).2=none∧Hq (objF A m 8 (entL H.deep H.ret H.ls H.ps H.ls.length)).1 m M)∨
 ∃hd,(objF A m 8 (entL H.deep H.ret H.ls H.ps H.ls.length)).2=some hd∧W64 hd∧
  (((fibF (objF A m 8 (entL H.deep H.ret H.ls H.ps H.ls.length)).1 m top hd).2=none∧Hq (fibF (objF A m 8 (entL H.deep H.ret H.ls H.ps H.ls.length)).1 m top hd).1 m M)∨
   ∃f M',(fibF (objF A m 8 (entL H.deep H.ret H.ls H.ps H.ls.length)).1 m top hd).2=some f∧W64 f∧Hq (fibF (objF A m 8 (entL H.deep H.ret H.ls H.ps H.ls.length)).1 m top hd).1 m M'∧Rep M' f ⟨⟨[],some H⟩::k.fs,k.tk⟩ rs):=by
 have hwl: ∀x,x∈entL H.deep H.ret H.ls H.ps H.ls.length→W64 x:=by
  intro x hx;unfold entL at hx;simp only[List.cons_append,List.nil_append,List.mem_cons]at hx;rcases hx with rfl|rfl|hx
  ·exact zH _
  ·exact hH.1.1
  ·exact w64_zipL (fun z hz=>(hH.2.1 z hz).1) (fun z hz=>(hH.2.2.1 z hz).1) _ x hx
 have hlen:(entL H.deep H.ret H.ls H.ps H.ls.length).length=2+(zipL H.ls H.ps H.ls.length).length:=by
  unfold entL;simp;omega
 rcases hp.obj 8 _ hwl with⟨e1,e2⟩|⟨hd,e1,e2,e3,e4,e5,M1,p1,O1,g,g1,g2⟩
 ·exact .inl ⟨e1,e2⟩
 right;refine⟨hd,e1,e4, ?_⟩;rcases p1.fiber (h.w hp).1 e4 with⟨e6,e7⟩|⟨f,e6,e7,e8,e9,M2,p2,O2,F2⟩
 ·exact .inl ⟨e6,e7.back O1⟩
 right;refine⟨f,M2,e6,e9,p2, ?_⟩;have hr:=(h.off0 O1);have hfr:=hr.off0 O2;obtain⟨⟨f1,f2,h1,h2,h3⟩,h4⟩:=hr;obtain⟨⟨q1,q2,k1,k2,k3⟩,_⟩:=h.off0 (O1.trans O2);have hnf:f∉f1:=fun hc=>by obtain⟨o,ho,_⟩:=RC.dom h1 f hc;rw[e7]at ho;cases ho
 have hnf2:f∉f2:=fun hc=>by obtain⟨o,ho,_⟩:=RTs.dom h2 f hc;rw[e7]at ho;cases ho
 refine⟨⟨f::f1,f2,⟨top,[f],f1,⟨⟨45, -1,hd,[],F2,.bare, ?_,rfl,by simp⟩,⟨by simp,fun h hh=>(by injection hh with hh;subst hh;exact hH)⟩⟩,RC.off O2 O2.k80 h1 (by simp),rfl, ?_⟩,RTs.off O2 O2.k80 h2 (by simp), ?_⟩,by simp⟩
 ·refine Hdl.k8 ⟨g,by rw[g1,hlen], ?_, ?_, ?_⟩ O2.k80
  ·have:=g2 0 (by omega);simpa[entL]using this
  ·have:=g2 1 (by omega);simpa[entL]using this
  ·intro i hi;have:=g2 (2+i) (by omega);rw[show((2:Int)+(i:Int))=((2+i:Nat):Int) by omega,this];unfold entL;rw[List.getElem?_append_right (by simp)]
   simp
 ·intro z hz hc;simp at hz;subst hz;exact hnf hc
 ·intro z hz hc;rcases List.mem_cons.1 hz with rfl|hz
  ·exact hnf2 hc
  ·exact h3 z hz hc
theorem Hdl.ret{H:PH}(h:Hdl M hd H)(hp:Hq A m M):gtF A m hd 1=H.ret∧nmF A m hd 0=(if H.deep=true then 1 else 0):=by
 obtain⟨g,h1,h2,h3,h4⟩:=h;refine⟨?_, ?_⟩
 ·rw[hp.gl h1 _ (by omega) (by omega),h3]
 ·unfold nmF;rw[hp.gl h1 _ (by omega) (by omega),h2];exact smW_val (by split<;>omega) (by split<;>omega)
theorem Rep.leave(h:Rep M top ⟨p::l,ts⟩ rs)(hp:Hq A m M):
 emptyF A m top=p.fr.isEmpty∧lowF A m top=l.isEmpty∧leftF A m top=(match p.h with|none=>45|some H=>H.ret)∧(l≠[]→Rep M (gtF A m top 0) ⟨l,ts⟩ rs):=by
 obtain⟨⟨f1,f2,⟨y,g1,g2,h1,h2,rfl,h4⟩,h5,h6⟩,_⟩:=h;refine⟨(h1.empty hp).2, ?_, ?_, ?_⟩
 ·rw[h1.low hp];cases l with
  |nil=>rw[h2.1];rfl
  |cons q l=>
   rcases RC.head h2 hp with⟨h,_⟩|⟨_,_,h⟩
   ·cases h
   ·rw[h];rfl
 ·have:=h1.has hp;unfold leftF;rw[this.1];cases hh:p.h with
  |none=>rfl
  |some H=>
   rw[hh]at this;simp only[Option.isSome_some,if_true];exact(Hdl.ret this.2 hp).1
 ·intro hl;rw[h1.blw hp];exact⟨⟨g2,f2,h2,h5,fun z hz=>h6 z (by simp[hz])⟩,hl⟩
def idxL(label:Int):List Int→Nat→Option Nat
 |[],_=>none
 |z::l,k=>if z=label then some k else idxL label l (k+1)
theorem zipL_len(ls ps:List Int)(k:Nat):(zipL ls ps k).length=2*k:=by
 induction k with
 |zero=>rfl
 |succ k ih=>simp[zipL,ih];omega
theorem zipL_at(ls ps:List Int)(k i:Nat)(hi:i<k):(zipL ls ps k)[2*i]?.getD 0=ls[i]?.getD 0∧(zipL ls ps k)[2*i+1]?.getD 0=ps[i]?.getD 0:=by
 induction k with
 |zero=>omega
 |succ k ih=>
  simp only[zipL];rcases Nat.lt_or_ge i k with h|h
  ·rw[List.getElem?_append_left (by rw[zipL_len];omega),List.getElem?_append_left (by rw[zipL_len];omega)];exact ih h
  ·have:i=k:=by omega
   subst this;rw[List.getElem?_append_right (by rw[zipL_len];omega),List.getElem?_append_right (by rw[zipL_len];omega),zipL_len];rw[show 2*i-2*i=0 by omega,show 2*i+1-2*i=1 by omega];exact⟨rfl,rfl⟩
theorem Hdl.sz{H:PH}(h:Hdl M hd H)(hp:Hq A m M):szF A m hd=2+2*(H.ls.length:Int):=by
 obtain⟨g,h1,_⟩:=h;rw[hp.sz h1,zipL_len];simp only;omega
theorem Hdl.at{H:PH}(h:Hdl M hd H)(hp:Hq A m M){i:Nat}(hi:i<H.ls.length):gtF A m hd (2+2*(i:Int))=H.ls[i]?.getD 0∧gtF A m hd (2+2*(i:Int)+1)=H.ps[i]?.getD 0:=by
 obtain⟨g,h1,h2,h3,h4⟩:=h;have hz:=zipL_len H.ls H.ps H.ls.length;have:=zipL_at H.ls H.ps H.ls.length i hi;rw[hp.gl h1 _ (by omega) (by omega),hp.gl h1 _ (by omega) (by omega),←this.1,←this.2];constructor
 ·rw[←h4 (2*i) (by omega)];congr 1<;>omega
 ·rw[←h4 (2*i+1) (by omega)];congr 1<;>omega
theorem Hdl.find{H:PH}(h:Hdl M hd H)(hp:Hq A m M)(label:Int): ∀(n k:Nat),k≤H.ls.length→H.ls.length<k+n→hdF A m hd label n k=(idxL label (H.ls.drop k) k).map fun i=>2+2*i+1:=by
 have hs:=h.sz hp;intro n
 induction n with
 |zero=>intro k h1 h2;omega
 |succ n ih=>
  intro k h1 h2;unfold hdF;rw[hs];by_cases hk:k<H.ls.length
  ·rw[if_pos (by omega),(h.at hp hk).1,List.drop_eq_getElem_cons hk];simp only[idxL];rw[List.getElem?_eq_getElem hk,Option.getD_some];by_cases hl:H.ls[k]=label
   ·rw[if_pos hl,if_pos hl];rfl
   ·rw[if_neg hl,if_neg hl];exact ih (k+1) hk (by omega)
  ·rw[if_neg (by omega),List.drop_eq_nil_of_le (by omega)];rfl
def fndP(label:Int):List PF→Nat→Option (Nat×Nat)
 |[],_=>none
 |p::l,up=>match p.h with
  |none=>fndP label l (up+1)
  |some H=>match idxL label H.ls 0 with
   |some i=>some (up,i)
   |none=>fndP label l (up+1)
theorem RC.sr{label:Int}(hp:Hq A m M): ∀{l:List PF} {x:Int} {fp:List Int},RC M 45 l x fp→∀(n up:Nat),l.length<n→srF A m label n x up=some ((fndP label l up).map fun r=>(r.1,2+2*r.2+1))∧srOk A m n x=true:=by
 intro l
 induction l with
 |nil=>
  rintro x fp ⟨rfl,rfl⟩ n up hn;cases n with
  |zero=>simp at hn
  |succ n=>exact⟨by unfold srF;rw[if_neg (by omega)];rfl,by unfold srOk;rw[if_neg (by omega)]⟩
 |cons p l ih=>
  rintro x fp ⟨y,f1,f2,h1,h2,rfl,h4⟩ n up hn;cases n with
  |zero=>simp at hn
  |succ n=>
   have hb:=h1.blw hp;have hh:=h1.has hp;have ht:=h1.tag hp;obtain⟨i1,i2⟩:=ih h2 n (up+1) (by simp at hn;omega);have hok:=h1.ok.2;unfold srF srOk fndP;rw[if_pos ht,if_pos ht,hh.1,hb,i1,i2];cases hp':p.h with
   |none=>
    rw[hp']at hh;simp only[Option.isSome_none,Bool.false_eq_true,if_false];refine⟨trivial, ?_⟩;rw[show gtF A m x 3=45 from hh.2,(gtF_45 0).2];rfl
   |some H=>
    rw[hp']at hh;have hlen:=(hok H hp').2.2.2.2;simp only[Option.isSome_some,if_true];rw[Hdl.find hh.2 hp label 200 0 (by omega) (by omega),List.drop_zero,Hdl.sz hh.2 hp];refine⟨?_,by simp only[Bool.and_true,decide_eq_true_eq];omega⟩;cases idxL label H.ls 0 with
    |none=>rfl
    |some i=>rfl
theorem RC.dn(hp:Hq A m M): ∀{l:List PF} {x:Int} {fp:List Int},RC M 45 l x fp→l≠[]→∀(u:Nat),
 (l.length≤u→dnF A m u x=none)∧(∀p,l[u]? =some p→∃z y f1,dnF A m u x=some z∧RF M z y p f1∧(y%8=1↔u+1<l.length)):=by
 intro l
 induction l with
 |nil=>intro x fp _ h;exact absurd rfl h
 |cons p l ih=>
  rintro x fp ⟨y,f1,f2,h1,h2,rfl,h4⟩ _ u;have hlow:=h1.low hp;have hb:=h1.blw hp
  have hy:(y%8=1↔l≠[]):=by
   rcases RC.head h2 hp with⟨rfl,rfl⟩|⟨h,_,h'⟩
   ·simp
   ·simp[h,h']
  cases u with
  |zero=>
   refine⟨fun h=>by simp at h,fun q hq=> ?_⟩;simp only[List.getElem?_cons_zero,Option.some.injEq]at hq;subst hq;refine⟨x,y,f1,rfl,h1, ?_⟩;rw[hy];cases l<;>simp
  |succ u=>
   unfold dnF;rw[hlow,hb];cases l with
   |nil=>
    have:y=45:=h2.1;subst this;refine⟨fun _=>by simp,fun q hq=>by simp at hq⟩
   |cons q l=>
    have hy1:=hy.2 (by simp);rw[show(y%8 !=1)=false by simp[hy1]];simp only[Bool.false_eq_true,if_false];obtain⟨i1,i2⟩:=ih h2 (by simp) u;refine⟨fun h=>i1 (by simp at h⊢;omega),fun p' hp'=> ?_⟩;obtain⟨z,y',g1,e1,e2,e3⟩:=i2 p' (by simpa using hp');refine⟨z,y',g1,e1,e2, ?_⟩;rw[e3];simp
theorem RC.ch(hp:Hq A m M): ∀{l:List PF} {x:Int} {fp:List Int},RC M 45 l x fp→∀n,l.length<n→chF A m n x=some l.length:=by
 intro l
 induction l with
 |nil=>
  rintro x fp ⟨rfl,rfl⟩ n hn;cases n with
  |zero=>omega
  |succ n=>unfold chF;rw[if_neg (by omega)];rfl
 |cons p l ih=>
  rintro x fp ⟨y,f1,f2,h1,h2,rfl,h4⟩ n hn;cases n with
  |zero=>omega
  |succ n=>
   unfold chF;rw[if_pos (h1.tag hp),h1.blw hp,ih h2 n (by simp at hn;omega)]
   simp
end
section
open Go.ChangeShapes Go.WideShapes Go.RowKit
variable{w0 w w1 w':World}{c:Sk}{A A':Ar}{top:Int}{last:Value}
theorem St.drewN(h:St w0 w c A top last)(n:Nat):St w0 (w.drewN n) c A top last:=h.keep ((Fr.refl _ _).drewN n)
def findVal'(A:Ar)(m:Nat)(f:Int):Option (Nat×Nat)→Value
 |none=> .tuple #[.int .i64 0,.int .u64 45,.bool false]
 |some (u,i)=> .tuple #[.int .i64 (u:Int),.int .u64 (gtF A m (gtF A m f 3) (i:Int)),.bool true]
set_option maxRecDepth 100000 in
set_option maxHeartbeats 2000000 in
theorem kfind_none(h:St w0 w c A top (.pointer none))(label:Int)(hlab:W64 label)(hl3:label%8≠3)(fuel:Nat)(R:Option (Nat×Nat))(f:Int)(hf:W64 f)(hR:srF A c.m label fuel top 0=some R)(hok:srOk A c.m fuel top=true)(hfu:fuel≤1000)
 (hd: ∀u i,R=some (u,i)→u≤1000∧i≤1000∧dnF A c.m u top=some f):
 Calls Tryz.prog 9 #[.pointer (some ⟨c.kb,0,none⟩),.int .u64 label] w fun e w'=>e=.returned (findVal' A c.m f R)∧St w0 w' c A top (.pointer none):=by
 have k3:=h.k3;have CS:Hid (∀wa,St w0 wa c A top (.pointer none)→_):=Lib.hid (fun wa ha=>ksearch_c ha label hlab fuel R hR hok (by omega));have CK:Hid (∀wa,_):=Lib.hid (fun wa=>zx label wa hlab.1 hlab.2);have hlb:(label%8==3)=false:=by simpa using hl3
 have OW:Hid (∀(wa wb:World) (up fld:Int) (ok:Bool) (g:Nat),g∉c.all→FnAt wa g top label up fld ok→Fr c.own wa wb→FnAt wb g top label up fld ok):=Lib.hid (fun wa wb up fld ok g hg hb hF=>hF.at hb (fun hm=>hg (zm hm)));have HD:=Lib.hid hd;have HF:=Lib.hid hf;clear hR hok hl3 hd hf;go_enter Tryz.func9,Tryz.ntmps9;go_wp2
 go_quiet (fail)
 have hq:=h.drewN nq;have hga:Hid (w.heap.size∉c.all):=Lib.hid (fun hx=>by have:=h.all_lt _ hx;omega);go_wp2_with fail;refine(CS.out _ hq).mono ?_;rintro e w1 ⟨rfl,h1,hm⟩;simp only[show(w.drewN nq).heap.size=w.heap.size from rfl]at hm;replace hm:=Lib.hid hm;have k2:=h1.k2;clear k3 CS h hq;cases R with
 |none=>
  obtain⟨up,hB⟩:=hm.out;have x4:=hB.c4;have H1:=Lib.hid h1;clear hm hB HD HF OW hga h1;cases hrem:c.rem with
  |false=>
   rw[hrem]at k2;clear hrem;go_wp2_with (first|(go_at_call 49;refine(zK _).mono ?_;rintro e w' ⟨rfl,rfl⟩));go_ret3;exact⟨rfl,H1.out⟩
  |true=>
   rw[hrem]at k2;clear hrem;go_wp2_with (first|(go_at_call 48;refine(CK.out _).mono ?_;rintro e w' ⟨rfl,rfl⟩)|(first|(go_at_call 49;refine(zK _).mono ?_;rintro e w' ⟨rfl,rfl⟩)));go_ret3;exact⟨rfl,H1.out⟩
 |some x=>
  obtain⟨u,i⟩:=x;have hB:FnAt w1 w.heap.size top label u i true:=hm.out;obtain⟨hu,hi,hdn⟩:=HD.out u i rfl;have x4:=hB.c4;have x2:=hB.c2
  have CDN:Hid (Calls Tryz.prog 50 #[.pointer (some ⟨c.kb,0,none⟩),.int .i64 (u:Int)] w1 fun e w'=>e=.returned (.tuple #[.int .u64 f,.bool (!lowF A c.m f)])∧St w1 w' c A top (.pointer none)):=Lib.hid (by
   have:=kdown_c h1.base u (by omega);rw[hdn]at this;exact this)
  have CHN:Hid (∀wa,St w1 wa c A top (.pointer none)→_):=Lib.hid (fun wa ha=>zP ha f HF.out);have CGN:Hid (∀w3 wa,St w3 wa c A top (.pointer none)→_):=Lib.hid (fun w3 wa ha=>zU (w0:=w3) ha (gtF A c.m f 3) (i:Int) (ha.gw _ _) (I64.of (by omega)));have H1:=Lib.hid h1;have HB:=Lib.hid hB;clear hm hB HD hdn h1;have step:Hid (∀w2,St w1 w2 c A top (.pointer none)→FnAt w2 w.heap.size top label u i true):=Lib.hid (fun w2 h2=>OW.out _ _ _ _ _ _ hga.out HB.out h2.fr)
  have KE:Hid (∀w3 wb,St w1 w3 c A top (.pointer none)→Fr c.own w3 wb→wb.cell? ⟨w.heap.size,2,none⟩=some (.int .i64 (u:Int))∧wb.cell? ⟨w.heap.size,3,none⟩=some (.int .i64 (i:Int))):=Lib.hid (fun w3 wb h3 hF=>by
   have:=OW.out _ _ _ _ _ _ hga.out (step.out _ h3) hF;exact⟨this.c2,this.c3⟩)
  clear OW hga;cases hrem:c.rem with
  |false=>
   rw[hrem]at k2;clear hrem CK;go_wp2_with (go_at_call 50;refine CDN.out.mono ?_;rintro e w2 ⟨rfl,h2⟩);clear x4 x2 k2 CDN HB;go_wp2_with fail;refine(CHN.out _ h2).mono ?_;rintro e w3 ⟨rfl,h3⟩;have hz:=h3.base;have hzd:=h3.base.drew;obtain⟨z2,z3⟩:=KE.out w3 w3 h3 (Fr.refl _ _);have H3:=Lib.hid h3;have CG3:=Lib.hid (CGN.out w3);clear CHN h2 CGN;go_wp2;go_region_held3 (fun w_=>w_.cell? ⟨w.heap.size,2,none⟩=some (.int .i64 (u:Int))∧w_.cell? ⟨w.heap.size,3,none⟩=some (.int .i64 (i:Int))) (with_reducible first|exact KE.out _ _ h3 h9.fr|exact KE.out _ _ h3 (Fr.refl _ _)|exact KE.out _ _ h3 (Fr.refl _ _).drew) (first|(go_at_call 52;refine Calls.mono (CG3.out _ (by first|exact hzd|exact hz)) ?_;rintro e w9 ⟨rfl,h9⟩))
   all_goals
    go_wp2;go_ret3;exact⟨rfl,(H1.out.join H3.out).join h9⟩
  |true=>
   rw[hrem]at k2;clear hrem;go_wp2_with (first|(go_at_call 48;refine(CK.out _).mono ?_;rintro e w' ⟨rfl,rfl⟩)|(go_at_call 50;refine CDN.out.mono ?_;rintro e w2 ⟨rfl,h2⟩));clear x4 x2 k2 CDN HB;go_wp2_with fail;refine(CHN.out _ h2).mono ?_;rintro e w3 ⟨rfl,h3⟩;have hz:=h3.base;have hzd:=h3.base.drew;obtain⟨z2,z3⟩:=KE.out w3 w3 h3 (Fr.refl _ _);have H3:=Lib.hid h3;have CG3:=Lib.hid (CGN.out w3);clear CHN h2 CGN;go_wp2;go_region_held3 (fun w_=>w_.cell? ⟨w.heap.size,2,none⟩=some (.int .i64 (u:Int))∧w_.cell? ⟨w.heap.size,3,none⟩=some (.int .i64 (i:Int))) (with_reducible first|exact KE.out _ _ h3 h9.fr|exact KE.out _ _ h3 (Fr.refl _ _)|exact KE.out _ _ h3 (Fr.refl _ _).drew) (first|(go_at_call 52;refine Calls.mono (CG3.out _ (by first|exact hzd|exact hz)) ?_;rintro e w9 ⟨rfl,h9⟩))
   all_goals
    go_wp2;go_ret3;exact⟨rfl,(H1.out.join H3.out).join h9⟩
theorem kclone_no(h:St w0 w c A top last)(r:Int)(hr:W64 r)(hf:freshF A c.m r≠0):Calls Tryz.prog 42 #[.pointer (some ⟨c.kb,0,none⟩),.int .u64 r] w fun e w'=>e=.returned (.tuple #[.int .u64 45,.bool false,.int .i64 (freshF A c.m r)])∧St w0 w' c A top last:=by
 have CF:=Lib.hid (kfresh_c h r hr);have hf2:(freshF A c.m r !=0)=true:=by simpa using hf
 clear hf;generalize freshF A c.m r=z at*;go_enter Tryz.func42,Tryz.ntmps42;go_wp2_with (first|(go_at_call 72;refine CF.out.mono ?_;rintro e w' ⟨rfl,_⟩)|(go_at_call 49;refine(zK _).mono ?_;rintro e w' ⟨rfl,rfl⟩));go_ret3;exact⟨rfl,by assumption⟩
end
section
variable{A A':Ar}{m:Nat}{M M' M'':Mem}{x y s prev below hand hd l0 b top:Int}{cap:Nat}{f f':Frm}{fs r0 r:List Frm}{fp fp' fq:List Int}{p q:PF}{h0:Option PH}{l a rest:List PF}{k:PK}{rs:List Int}{ts:List (Option (List PF))}
theorem RF.setbelow(h:RF M x y p fp)(hp:Hq A m M)(v:Int)(hv:W64 v): ∃M',Hq (stF A m x 0 v) m M'∧RF M' x v p fp∧Off [x] M M'∧Kp8 M M':=by
 obtain⟨⟨s,b,hd,fs,h1,h2,h3,rfl,h5⟩,h6⟩:=h;obtain⟨o,ho,hn,hk⟩:=h1.obj;have O:Off [x] M (M.put x 0 v):=Off.put _ _ _ _;have K:Kp8 M (M.put x 0 v):=O.k8 (by intro z hz o2 h2;simp at hz;subst hz;rw[ho]at h2;injection h2 with h2;subst h2;omega);exact⟨_,hp.st ho (by omega) (by omega) hv,⟨⟨s,b,hd,fs,h1.below' v,h2.off O (fun z hz=>by simp;rintro rfl;exact h5 hz),h3.k8 K,rfl,h5⟩,h6⟩,O,K⟩
theorem RF.nohand(h:RF M x y p fp)(hp:Hq A m M): ∃M',Hq (stF A m x 3 45) m M'∧RF M' x y ⟨p.fr,none⟩ fp∧Off [x] M M'∧Kp8 M M':=by
 obtain⟨⟨s,b,hd,fs,h1,h2,h3,rfl,h5⟩,h6⟩:=h;obtain⟨o,ho,hn,hk⟩:=h1.obj;have O:Off [x] M (M.put x 3 45):=Off.put _ _ _ _;have K:Kp8 M (M.put x 3 45):=O.k8 (by intro z hz o2 h2;simp at hz;subst hz;rw[ho]at h2;injection h2 with h2;subst h2;omega);exact⟨_,hp.st ho (by omega) (by omega) zG,⟨⟨s,b,45,fs,h1.hand' 45,h2.off O (fun z hz=>by simp;rintro rfl;exact h5 hz),rfl,rfl,h5⟩,⟨h6.1,fun h hh=>(by cases hh)⟩⟩,O,K⟩
theorem Hq.resum(h:Hq A m M)(hi lo:Int)(h1:W64 hi)(h2:W64 lo):
 ((objF A m 6 [smW 0,hi,lo]).2=none∧Hq (objF A m 6 [smW 0,hi,lo]).1 m M)∨∃r M',(objF A m 6 [smW 0,hi,lo]).2=some r∧M r=none∧W64 r∧Hq (objF A m 6 [smW 0,hi,lo]).1 m M'∧Off [] M M'∧Res M' r 0 hi lo:=by
 rcases h.obj 6 [smW 0,hi,lo] (by
  intro z hz;simp at hz;rcases hz with rfl|rfl|rfl
  ·exact zH _
  ·exact h1
  ·exact h2)with⟨e1,e2⟩|⟨r,e1,e2,e3,e4,_,M',p1,O,g,g1,g2⟩
 ·exact .inl ⟨e1,e2⟩
 ·exact .inr ⟨r,M',e1,e2,e4,p1,O,g,g1,g2 0 (by simp),g2 1 (by simp),g2 2 (by simp)⟩
theorem Res.low'{n hi lo:Int}(h:Res M x n hi lo)(v:Int):Res (M.put x 2 v) x n hi v:=by
 obtain⟨g,h1,h2,h3,h4⟩:=h;exact⟨_,Mem.put_lit _ _ h1,by rw[if_neg (by omega)];exact h2,by rw[if_neg (by omega)];exact h3,if_pos rfl⟩
theorem Res.top'{n hi lo:Int}(h:Res M x n hi lo)(v:Int):Res (M.put x 1 v) x n v lo:=by
 obtain⟨g,h1,h2,h3,h4⟩:=h;exact⟨_,Mem.put_lit _ _ h1,by rw[if_neg (by omega)];exact h2,if_pos rfl,by rw[if_neg (by omega)];exact h4⟩
theorem Res.st'{n hi lo:Int}(h:Res M x n hi lo)(v:Int):Res (M.put x 0 (smW v)) x v hi lo:=by
 obtain⟨g,h1,h2,h3,h4⟩:=h;exact⟨_,Mem.put_lit _ _ h1,if_pos rfl,by rw[if_neg (by omega)];exact h3,by rw[if_neg (by omega)];exact h4⟩
theorem Res.k8{n hi lo:Int}(h:Res M x n hi lo)(i v:Int):Kp8 M (M.put x i v):=(Off.put M x i v).k8 (by
 intro z hz o2 h2;simp at hz;subst hz;obtain⟨g,h1,_⟩:=h;rw[h1]at h2;injection h2 with h2;subst h2;simp)
def deepP(h:Option PH):Bool:=match h with|some H=>H.deep|none=>false
structure Cut(M:Mem)(top low y:Int)(a:List PF)(q:PF)(rest:List PF)(ts:List (Option (List PF)))(rs f1 g1 g2 f2:List Int):Prop where
 a:RC M low a top f1
 q:RF M low y q g1
 r:RC M 45 rest y g2
 t:RTs M ts rs f2
 d1: ∀z,z∈f1→z∉g1++g2
 d2: ∀z,z∈g1→z∉g2
 d3: ∀z,z∈f1++(g1++g2)→z∉f2
theorem Rep.cut(h:Rep M top ⟨a++q::rest,ts⟩ rs): ∃low y f1 g1 g2 f2,Cut M top low y a q rest ts rs f1 g1 g2 f2:=by
 obtain⟨⟨ff,f2,h1,h2,h3⟩,_⟩:=h;obtain⟨low,f1,gg,k1,⟨y,g1,g2,k3,k4,rfl,k5⟩,rfl,k2⟩:=RC.app.1 h1;exact⟨low,y,f1,g1,g2,f2,k1,k3,k4,h2,k2,k5,h3⟩
theorem Cut.off{low:Int}{f1 g1 g2 f2:List Int}(h:Cut M top low y a q rest ts rs f1 g1 g2 f2)(ho:Off [] M M'):Cut M' top low y a q rest ts rs f1 g1 g2 f2:=
 ⟨RC.off ho ho.k80 h.a (by simp),h.q.off ho ho.k80 (by simp),RC.off ho ho.k80 h.r (by simp),RTs.off ho ho.k80 h.t (by simp),h.d1,h.d2,h.d3⟩
theorem Cut.done{low:Int}{f1 g1 g2 f2:List Int}(h:Cut M top low y a q rest ts rs f1 g1 g2 f2)(hr:rest≠[]){r:Int}{t:List PF}{ft fq:List Int}(hT:RT M' (some t) r ft)(ho:Off fq M M')(hk:Kp8 M M')(hq: ∀z,z∈fq→z∈f1++g1∨M z=none)(hf: ∀z,z∈ft→z∈f1++g1∨M z=none):Rep M' y ⟨rest,ts++[some t]⟩ (rs++[r]):=by
 have n2: ∀z,z∈f2→z∉f1++g1:=fun z hz hc=>h.d3 z (by rcases List.mem_append.1 hc with hc|hc<;>simp[hc]) hz
 have n3: ∀z,z∈g2→z∉f1++g1:=fun z hz hc=>by
  rcases List.mem_append.1 hc with hc|hc
  ·exact h.d1 z hc (by simp[hz])
  ·exact h.d2 z hc hz
 have m2: ∀z,z∈f2→M z≠none:=fun z hz hc=>by obtain⟨o,ho,_⟩:=RTs.dom h.t z hz;rw[hc]at ho;cases ho
 have m3: ∀z,z∈g2→M z≠none:=fun z hz hc=>by obtain⟨o,ho,_⟩:=RC.dom h.r z hz;rw[hc]at ho;cases ho
 refine⟨⟨g2,f2++ft,RC.off ho hk h.r ?_,RTs.add hT (RTs.off ho hk h.t ?_) ?_, ?_⟩,hr⟩
 ·intro z hz hc;rcases hq z hc with hc|hc
  ·exact n3 z hz hc
  ·exact m3 z hz hc
 ·intro z hz hc;rcases hq z hc with hc|hc
  ·exact n2 z hz hc
  ·exact m2 z hz hc
 ·intro z hz hc;rcases hf z hc with hc|hc
  ·exact n2 z hz hc
  ·exact m2 z hz hc
 ·intro z hz hc;rcases List.mem_append.1 hc with hc|hc
  ·exact h.d3 z (by simp[hz]) hc
  ·rcases hf z hc with hc|hc
   ·exact n3 z hz hc
   ·exact m3 z hz hc
theorem RC.dn_eq{e:Int}(hp:Hq A m M): ∀{a:List PF} {x:Int} {g:List Int},RC M e a x g→∀z,dnF A m a.length x=some z→z=e:=by
 intro a
 induction a with
 |nil=>
  rintro x g ⟨rfl,rfl⟩ z h;have h:some x=some z:=h;injection h with h
  exact h.symm
 |cons v a ih=>
  rintro x g ⟨y1,u1,u2,h1,h2,rfl,h4⟩ z h;simp only[List.length_cons,dnF]at h;split at h
  ·cases h
  ·rw[h1.blw hp]at h;exact ih h2 z h
theorem Rep.capture(h:Rep M top ⟨a++q::rest,ts⟩ rs)(hp:Hq A m M)(hr:rest≠[]):
 ∃low,dnF A m a.length top=some low∧W64 low∧lowF A m low=false∧
  (((objF A m 6 [smW 0,top,low]).2=none∧Hq (objF A m 6 [smW 0,top,low]).1 m M)∨
    ∃r A1,objF A m 6 [smW 0,top,low]=(A1,some r)∧W64 r∧
     (deepP q.h=true→hasF A1 m low=true∧nmF A1 m (gtF A1 m low 3) 0≠0∧∃M',Hq (stF A1 m low 0 45) m M'∧Rep M' (gtF A1 m low 0) ⟨rest,ts++[some (a++[q])]⟩ (rs++[r]))∧
     (deepP q.h=false→(hasF A1 m low=false∨hasF A1 m low=true∧nmF A1 m (gtF A1 m low 3) 0=0)∧emptyF (stF A1 m low 3 45) m low=q.fr.isEmpty∧
       (q.fr=[]→a≠[]→∃ab,dnF (stF A1 m low 3 45) m (a.length-1) top=some ab∧W64 ab∧∃M',Hq (stF (stF (stF A1 m low 3 45) m r 2 ab) m ab 0 45) m M'∧Rep M' (gtF A1 m low 0) ⟨rest,ts++[some a]⟩ (rs++[r]))∧
       ∃M',Hq (stF (stF A1 m low 3 45) m low 0 45) m M'∧Rep M' (gtF A1 m low 0) ⟨rest,ts++[some (a++[⟨q.fr,none⟩])]⟩ (rs++[r]))):=by
 have htw:=h.w hp;obtain⟨low,y,f1,g1,g2,f2,hc⟩:=h.cut;obtain⟨ff,f2',h1,hRT⟩:=h.ex;simp only at h1;obtain⟨z,y',f1',e1,e2,e3⟩:=(RC.dn hp h1 (by simp) a.length).2 q (by simp);have hz:z=low:=RC.dn_eq hp hc.a z e1;subst hz;have hlw:=hc.q.w hp;have hyb:=hc.q.blw hp
 have hy1:y%8=1:=by
  rcases RC.head hc.r hp with⟨h,_⟩|⟨_,_,h⟩
  ·exact absurd h hr
  ·exact h
 clear hRT;refine⟨z,e1,hlw,by rw[hc.q.low hp];simp[hy1], ?_⟩;rcases hp.resum top z htw.1 hlw with⟨e4,e5⟩|⟨r,M1,e4,e5,e6,p1,O1,R1⟩
 ·exact .inl ⟨e4,e5⟩
 right;refine⟨r,(objF A m 6 [smW 0,top,z]).1,Prod.ext rfl e4,e6, ?_⟩;generalize (objF A m 6 [smW 0,top,z]).1=A1 at p1⊢;have c1:=hc.off O1;have hb1:=c1.q.blw p1;have hh1:=c1.q.has p1
 have hrn:r∉f1++g1:=by
  intro hm;rcases List.mem_append.1 hm with hm|hm
  ·obtain⟨o,ho,_⟩:=RC.dom hc.a r hm;rw[e5]at ho;cases ho
  ·obtain⟨o,ho,_⟩:=hc.q.dom r hm;rw[e5]at ho;cases ho
 have hzm:=c1.q.mem;have dz: ∀v,v∈f1→v∉g1:=fun v hv hm=>hc.d1 v hv (by simp[hm])
 have hfr: ∀v,v∈r::(f1++g1)→v∈f1++g1∨M v=none:=by
  intro v hv;rcases List.mem_cons.1 hv with rfl|hv
  ·exact .inr e5
  ·exact .inl hv
 rw[hb1];refine⟨fun hd=> ?_,fun hd=> ?_⟩
 ·
  obtain⟨M2,p2,q2,O2,K2⟩:=c1.q.setbelow p1 45 zG
  obtain⟨H,hH,hdp⟩: ∃H,q.h=some H∧H.deep=true:=by
   unfold deepP at hd;cases hh:q.h with
   |none=>rw[hh]at hd;cases hd
   |some H=>rw[hh]at hd;exact⟨H,rfl,hd⟩
  rw[hH]at hh1;have hz1: ∀v,v∈[z]→v∈f1++g1:=by intro v hv;simp at hv;subst hv;simp[hzm]
  refine⟨hh1.1, ?_,M2,p2, ?_⟩
  ·rw[(Hdl.ret hh1.2 p1).2,if_pos hdp];omega
  ·refine hc.done hr (r:=r) (t:=a++[q]) (ft:=r::(f1++g1)) (fq:=[z]) ?_ (fun v o hv ho=>O2 v o hv (O1 v o (by simp) ho)) (O1.k80.trans K2) (fun v hv=> .inl (hz1 v hv)) hfr;refine⟨top,z,a,q,f1,g1,rfl,R1.off O2 ?_,RC.off O2 K2 c1.a ?_,q2,rfl,hrn,dz⟩
   ·intro hm;exact hrn (hz1 r hm)
   ·intro v hv hm;simp at hm;subst hm;exact dz v hv hzm
 ·obtain⟨M2,p2,q2,O2,K2⟩:=c1.q.nohand p1;have hz1: ∀v,v∈[z]→v∈f1++g1:=by intro v hv;simp at hv;subst hv;simp[hzm]
  have hrz:r∉ [z]:=fun hm=>hrn (hz1 r hm)
  have R2:=R1.off O2 hrz;have a2:=RC.off O2 K2 c1.a (by intro v hv hm;simp at hm;subst hm;exact dz v hv hzm);have r2:=RC.off O2 K2 c1.r (by intro v hv hm;simp at hm;subst hm;exact c1.d2 v hzm hv);refine⟨?_,(q2.empty p2).2, ?_, ?_⟩
  ·unfold deepP at hd;cases hh:q.h with
   |none=>rw[hh]at hh1;exact .inl hh1.1
   |some H=>
    rw[hh]at hh1 hd;right;refine⟨hh1.1, ?_⟩;rw[(Hdl.ret hh1.2 p1).2,if_neg (by simp only at hd;rw[hd];decide)]
  ·intro hq ha;obtain⟨a',u,rfl⟩: ∃a' u,a=a'++[u]:=⟨a.dropLast,a.getLast ha,(List.dropLast_concat_getLast ha).symm⟩;obtain⟨ab,k1,k2,n1,⟨y3,k3,k4,n2,⟨ey3,rfl⟩,rfl,_⟩,rfl,n4⟩:=RC.app.1 a2;rw[ey3]at n2;clear ey3 y3;simp only[List.append_nil]at n4 hrn dz hfr hz1⊢;obtain⟨ff2,hch⟩: ∃ff2,RC M2 45 ((a'++[u])++⟨q.fr,none⟩::rest) top ff2:=⟨_,RC.app.2 ⟨z,k1++(k3++[]),g1++g2,a2,⟨y,g1,g2,q2,r2,rfl,hc.d2⟩,rfl,hc.d1⟩⟩;obtain⟨z3,y4,f3,e7,e8,_⟩:=(RC.dn p2 hch (by simp) a'.length).2 u (by simp);have hz3:z3=ab:=RC.dn_eq p2 n1 z3 e7;subst hz3;have hab:=n2.w p2;obtain⟨o,ho,hon,hok⟩:=R2.obj;have p3:=p2.st ho (i:=2) (v:=z3) (by omega) (by omega) hab;have O3:Off [r] M2 (M2.put r 2 z3):=Off.put _ _ _ _;have K3:=R2.k8 2 z3;have n2':=n2.off O3 K3 (by intro v hv hm;simp at hm;subst hm;exact hrn (by simp[hv]));have n1':=RC.off O3 K3 n1 (by intro v hv hm;simp at hm;subst hm;exact hrn (by simp[hv]));obtain⟨M4,p4,q4,O4,K4⟩:=n2'.setbelow p3 45 zG;have hzm3:=n2.mem;have R4:=(R2.low' z3).off O4 (by intro hm;simp at hm;subst hm;exact hrn (by simp[hzm3]));refine⟨z3,by simpa using e7,hab,M4,p4, ?_⟩
   have O:Off [z,r,z3] M M4:=fun v o hv ho=>by
    simp only[List.mem_cons,List.not_mem_nil,or_false,not_or]at hv;exact O4 v o (by simp[hv.2.2]) (O3 v o (by simp[hv.2.1]) (O2 v o (by simp[hv.1]) (O1 v o (by simp) ho)))
   refine hc.done hr (r:=r) (t:=a'++[u]) (ft:=r::(k1++k3)) (fq:=[z,r,z3]) ?_ O (O1.k80.trans (K2.trans (K3.trans K4))) ?_ ?_
   ·refine⟨top,z3,a',u,k1,k3,rfl,R4,RC.off O4 K4 n1' ?_,q4,rfl, ?_,n4⟩
    ·intro v hv hm;simp at hm;subst hm;exact n4 v hv hzm3
    ·intro hm;exact hrn (by rcases List.mem_append.1 hm with hm|hm<;>simp[hm])
   ·intro v hv;simp only[List.mem_cons,List.not_mem_nil,or_false]at hv;rcases hv with rfl|rfl|rfl
    ·exact .inl (by simp[hzm])
    ·exact .inr e5
    ·exact .inl (by simp[hzm3])
   ·intro v hv;rcases List.mem_cons.1 hv with rfl|hv
    ·exact .inr e5
    ·exact .inl (by rcases List.mem_append.1 hv with hv|hv<;>simp[hv])
  ·obtain⟨M3,p3,q3,O3,K3⟩:=q2.setbelow p2 45 zG;refine⟨M3,p3, ?_⟩;refine hc.done hr (r:=r) (t:=a++[⟨q.fr,none⟩]) (ft:=r::(f1++g1)) (fq:=[z]) ?_ (fun v o hv ho=>O3 v o hv (O2 v o hv (O1 v o (by simp) ho))) (O1.k80.trans (K2.trans K3)) (fun v hv=> .inl (hz1 v hv)) hfr;refine⟨top,z,a,_,f1,g1,rfl,R2.off O3 hrz,RC.off O3 K3 a2 ?_,q3,rfl,hrn,dz⟩;intro v hv hm;simp at hm;subst hm;exact dz v hv hzm
end
end Go.Proofs.YtghkahcogphomaaGreat
