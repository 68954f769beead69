/- Fibers: a part of the walk. No condition. -/
import Derived.Test.YtghkahcogphomaaGreatQk26
import Derived.Test.YtghkahcogphomaaGreatQk27
import Derived.Test.YtghkahcogphomaaGreatQk28
import Derived.Test.YtghkahcogphomaaGreatQk29
set_option linter.all false
namespace Go.Proofs.YtghkahcogphomaaGreat
section
open Go.ChangeShapes Go.WideShapes Go.RowKit
variable{w0 w w1 w':World}{c:Sk}{X:List Nat}{k k':PK}{rs:List Int}{last:Value}{A:Ar}{m:Nat}{M:Mem}{x y s b prev l0:Int}{fs rest:List Frm}{f:Frm}{fp:List Int}{p:PF}
theorem enc_app(l0:Int)(g r:List Frm): ∃t,enc l0 (g++r)=enc l0 r++t:=by
 induction g with
 |nil=>exact⟨[],by simp⟩
 |cons x g ih=>
  obtain⟨t,ht⟩:=ih;exact⟨t++x.enc (lk l0 (g++r)),by simp only[List.cons_append,enc];rw[ht,List.append_assoc]⟩
theorem Low.bnd(h:Low M s b fs fp)(hp:Hq A m M): -1≤b∧b≤238:=by
 cases h with
 |nil=>omega
 |cons seg ok low out=>
  have:=seg.cp hp;have:=ok.1;omega
theorem seg_frv{cap:Nat}(hp:Hq A m M)(hb: -1≤l0∧l0≤238){n:Nat}(hr:frV A m n prev l0): ∀(fs g:List Frm) (f:Frm),Seg M s prev cap (enc l0 (g++f::fs))→szL fs≤238→frV A m (fs.length+1+n) s (szL fs):=by
 intro fs
 induction fs with
 |nil=>
  intro g f seg hs;obtain⟨t,ht⟩:=enc_app l0 g [f]
  have h2:nmF A m s (2+(szL ([]:List Frm):Int)+2)=l0:=by
   have:=seg.at hp (i:=2) (by rw[ht,List.length_append,len_enc];simp only[szL,Frm.len];omega);rw[ht,List.getElem?_append_left (by rw[len_enc];simp only[szL,Frm.len];omega)]at this;unfold nmF;rw[show(2+(szL ([]:List Frm):Int)+2)=2+((2:Nat):Int) by simp[szL],this];show wVal (smW (lk l0 []))=l0;exact smW_val (by simp only[lk];omega) (by simp only[lk];omega)
  rw[show([]:List Frm).length+1+n=n+1 by simp;omega];unfold frV;refine⟨by omega,by omega,seg.w hp,by rw[h2];omega,by rw[h2];omega, ?_⟩;rw[h2,if_pos (by simp[szL]),seg.g0 hp];exact hr
 |cons f2 fs ih=>
  intro g f seg hs;obtain⟨t,ht⟩:=enc_app l0 g (f::f2::fs);have hz:szL (f2::fs)=szL fs+f2.len:=rfl;have hfl:5≤f2.len:=by unfold Frm.len;omega
  have h2:nmF A m s (2+(szL (f2::fs):Int)+2)=szL fs:=by
   have:=seg.at hp (i:=szL (f2::fs)+2) (by rw[ht,List.length_append,len_enc];simp only[szL,Frm.len];omega);rw[ht,List.getElem?_append_left (by rw[len_enc];simp only[szL,Frm.len];omega),enc_at]at this;unfold nmF;rw[show(2+(szL (f2::fs):Int)+2)=2+((szL (f2::fs)+2:Nat):Int) by omega,this];show wVal (smW (lk l0 (f2::fs)))=szL fs;exact smW_val (by simp only[lk];omega) (by simp only[lk];omega)
  have hi:=ih (g++[f]) f2 (by rw[List.append_assoc];exact seg) (by omega);rw[show(f2::fs).length+1+n=(fs.length+1+n)+1 by simp;omega];unfold frV;refine⟨by omega,by omega,seg.w hp,by rw[h2];omega,by rw[h2];omega, ?_⟩;rw[h2,if_neg (by omega)];exact hi
theorem Low.frv(h:Low M s b fs fp)(hp:Hq A m M):frV A m fs.length s b:=by
 induction h with
 |nil=>rfl
 |cons seg ok low out ih=>
  rename_i s prev l0 cap f fs rest fp
  have hb:=low.bnd hp;have hc:=seg.cp hp;have:=seg_frv hp hb ih fs [] f seg (by have:=ok.1;omega);simp only[List.length_append,List.length_cons];rw[show fs.length+1+rest.length=fs.length+1+rest.length from rfl];exact this
theorem fits_len{cap:Nat}: ∀{fs:List Frm},fits cap fs→5*fs.length≤cap:=by
 intro fs h
 have: ∀fs:List Frm,5*fs.length≤szL fs:=by
  intro fs
  induction fs with
  |nil=>simp[szL]
  |cons f r ih=>simp only[szL,Frm.len,List.length_cons];omega
 cases fs with
 |nil=>simp
 |cons f r=>
  have:=this r;have:=h.1;simp only[List.length_cons];omega
theorem Low.cnt(h:Low M s b fs fp)(hp:Hq A m M):fs.length≤48*fp.length:=by
 induction h with
 |nil=>simp
 |cons seg ok low out ih=>
  have:=seg.cp hp;have:=fits_len ok;simp only[List.length_append,List.length_cons]at this⊢;omega
theorem RF.frv(h:RF M x y p fp)(hp:Hq A m M):frV A m p.fr.length (gtF A m x 1) (nmF A m x 2)∧p.fr.length≤48*(m*256):=by
 have hmany:=hp.many fp h.nd (fun z hz=>by obtain⟨o,ho,_⟩:=h.dom z hz;exact⟨o,ho⟩);obtain⟨fr,h0⟩:=p;obtain⟨⟨s,b,hd,fq,h1,h2,h3,rfl,h5⟩,_⟩:=h;simp only[List.length_cons]at h2 hmany⊢;have hg:=h1.g hp
 have hb: -1≤b∧b≤238:=by
  cases h2 with
  |bare=>omega
  |empty=>omega
  |full low=>exact low.bnd hp
 have hb2:nmF A m x 2=b:=by
  unfold nmF;rw[hg.2.2.1];exact smW_val (by omega) (by omega)
 rw[hg.2.1,hb2];cases h2 with
 |bare=>exact⟨rfl,by simp⟩
 |empty=>exact⟨rfl,by simp⟩
 |full low=>exact⟨low.frv hp,by have:=low.cnt hp;omega⟩
theorem ks_frames(h:Ks w0 w c X k rs)(hm:c.m≤600):Calls Tryz.prog 54 #[.pointer (some ⟨c.kb,0,none⟩)] w fun e w'=>e=.returned (.int .i64 (((k.fs.head?.map fun p=>p.fr.length).getD 0:Nat):Int))∧Ks w0 w' c X k rs:=by
 obtain⟨A,M,top,last,p,l,y,fp,ek,h1,h2,h3,_,h4⟩:=h.see;obtain⟨v1,v2⟩:=h3.frv h2;have:48*(c.m*256)≤48*(600*256):=Nat.mul_le_mul_left _ (Nat.mul_le_mul_right _ hm);refine(kframes_c h1.base _ v1 (by omega)).mono ?_;rintro e w' ⟨rfl,hS⟩;refine⟨?_,h4 _ hS⟩;rw[ek];rfl
theorem ks_setslot(h:Ks w0 w c X k rs)(i v:Int)(hv:Plain v):
 Calls Tryz.prog 28 #[.pointer (some ⟨c.kb,0,none⟩),.int .i64 i,.int .u64 v] w fun e w'=>e=.returned (.bool (topM (zp i v) k).isSome)∧Did w0 c X k rs (topM (zp i v) k) (topM (zp i v) k).isSome w':=by
 obtain⟨A,M,top,last,p,l,y,fp,ek,h1,h2,h3,h4,h5⟩:=h.top (F:=zp i v) (by
  intro p p' hp;unfold zp at hp;split at hp
  ·cases hp
  ·split at hp
   ·cases hp
   ·injection hp with hp;subst hp;rfl)
 refine(ksetslot_c h1.base (h3.frok h2) i v hv.1).mono ?_;rintro e w' ⟨rfl,hS⟩;obtain⟨fr,h0⟩:=p;cases fr with
 |nil=>
  have e0:topM (zp i v) k=none:=by rw[ek];rfl
  have e1:slotF A c.m top i=none:=by unfold slotF;rw[(h3.empty h2).1];rfl
  rw[e1]at hS⊢;rw[e0];exact⟨rfl,.inr ⟨rfl,h4 _ _ (h1.join hS) h2 hS.fr⟩⟩
 |cons f r=>
  rcases h3.slot h2 i with⟨e1,e2⟩|⟨q,rfl,e1,e2,e3⟩
  ·have e0:topM (zp i v) k=none:=by rw[ek];unfold topM zp;simp only;rw[if_pos e2];rfl
   rw[e1]at hS⊢;rw[e0];exact⟨rfl,.inr ⟨rfl,h4 _ _ (h1.join hS) h2 hS.fr⟩⟩
  ·rw[e2]at hS⊢;obtain⟨M',e3,e4,e5,e6⟩:=h3.setslot h2 q e1 v hv;obtain⟨k',q1,q2⟩:=h5 _ M' _ fp _ (h1.join hS) e3 e4 e5 e6 (fun z hz=> .inl hz) (by unfold zp;simp only;rw[if_neg (by omega),Int.toNat_natCast]) hS.fr;rw[q1];exact⟨rfl,.inl ⟨rfl,k',rfl,q2⟩⟩
def enterM(H:PH)(k:PK):Option PK:=if H.ls.length≠H.ps.length∨20<H.ls.length then none else some ⟨⟨[],some H⟩::k.fs,k.tk⟩
theorem ks_enter(h:Ks w0 w c X k rs)(deep:Bool)(ret:Int)(hret:Plain ret)(ls ps:List Int)(hl: ∀x,x∈ls→Plain x)(hp: ∀x,x∈ps→Plain x)(a1 a2:Option Addr)(cap1 cap2:Nat)(f1:FdAt w c a1 ls)(f2:FdAt w c a2 ps):
 Calls Tryz.prog 15 #[.pointer (some ⟨c.kb,0,none⟩),.bool deep,.int .u64 ret,.slice a1 ls.length cap1,.slice a2 ps.length cap2] w fun e w'=> ∃ok,e=.returned (.bool ok)∧Did w0 c X k rs (enterM ⟨deep,ret,ls,ps⟩ k) ok w':=by
 obtain⟨A,M,top,last,h1,h2,h3,h4⟩:=h.ex;have same: ∀A' w',St w w' c A' top last→Hq A' c.m M→Ks w0 w' c X k rs:=fun A' w' hS hH=>⟨A',M,top,last,h1.join hS,hH,h3,h4.fr hS.fr (own_in c)⟩
 by_cases hb:ls.length≠ps.length∨20<ls.length
 ·refine(kenter_bad h1.base deep ret a1 a2 ls.length ps.length cap1 cap2 hb).mono ?_;rintro e w' ⟨rfl,hS⟩;exact⟨false,rfl,.inr ⟨rfl,same _ _ hS h2⟩⟩
 ·have hlen:ps.length=ls.length:=by omega
  have hH:PH.Ok ⟨deep,ret,ls,ps⟩:=⟨hret,hl,hp,hlen.symm,by show ls.length≤20;omega⟩;rw[hlen];rcases h3.enter h2 ⟨deep,ret,ls,ps⟩ hH with⟨e1,e2⟩|⟨hd,e1,e2,e3⟩
  ·refine(kenter_n1 h1.base deep ret hret.1 ls ps (fun z hz=>(hl z hz).1) (fun z hz=>(hp z hz).1) ls.length rfl hlen (by omega) a1 a2 cap1 cap2 f1 f2 e1).mono ?_;rintro e w' ⟨rfl,hS⟩;exact⟨false,rfl,.inr ⟨rfl,same _ _ hS e2⟩⟩
  ·rcases e3 with⟨e3,e4⟩|⟨f,M',e3,e4,e5,e6⟩
   ·refine(kenter_n2 h1.base deep ret hret.1 ls ps (fun z hz=>(hl z hz).1) (fun z hz=>(hp z hz).1) ls.length rfl hlen (by omega) a1 a2 cap1 cap2 f1 f2 hd e1 e2 e3).mono ?_;rintro e w' ⟨rfl,hS⟩;exact⟨false,rfl,.inr ⟨rfl,same _ _ hS e4⟩⟩
   ·refine(kenter_c h1.base deep ret hret.1 ls ps (fun z hz=>(hl z hz).1) (fun z hz=>(hp z hz).1) ls.length rfl hlen (by omega) a1 a2 cap1 cap2 f1 f2 hd f e1 e2 e3 e4).mono ?_;rintro e w' ⟨rfl,hS⟩;exact⟨true,rfl,.inl ⟨rfl,_,by unfold enterM;rw[if_neg hb],_,M',f,_,h1.join hS,e5,e6,.inl rfl⟩⟩
def leaveM(k:PK):Option PK:=match k.fs with|p::q::l=>if p.fr=[]then some ⟨q::l,k.tk⟩else none|_=>none
def leaveW(k:PK):Int:=match k.fs with|p::_=>(match p.h with|none=>45|some H=>H.ret)|[]=>45
theorem ks_leave(h:Ks w0 w c X k rs):
 Calls Tryz.prog 35 #[.pointer (some ⟨c.kb,0,none⟩)] w fun e w'=>e=.returned (.tuple #[.int .u64 (if(leaveM k).isSome=true then leaveW k else 45),.bool (leaveM k).isSome])∧Did w0 c X k rs (leaveM k) (leaveM k).isSome w':=by
 obtain⟨A,M,top,last,h1,h2,h3,h4⟩:=h.ex;have same: ∀w',St w w' c A top last→Ks w0 w' c X k rs:=fun w' hS=>⟨A,M,top,last,h1.join hS,h2,h3,h4.fr hS.fr (own_in c)⟩
 obtain⟨fs,ts⟩:=k;cases fs with
 |nil=>exact absurd rfl h3.ne
 |cons p l=>
  obtain⟨q1,q2,q3,q4⟩:=h3.leave h2;cases l with
  |nil=>
   have e0:leaveM ⟨[p],ts⟩=none:=rfl;rw[e0];refine(kleave_no h1.base (.inr (by rw[q2];rfl))).mono ?_;rintro e w' ⟨rfl,hS⟩;exact⟨rfl,.inr ⟨rfl,same _ hS⟩⟩
  |cons q l=>
   by_cases hf:p.fr=[]
   ·have e0:leaveM ⟨p::q::l,ts⟩=some ⟨q::l,ts⟩:=by unfold leaveM;simp only;rw[if_pos hf]
    rw[e0];refine(kleave_yes h1.base (by rw[q1,hf];rfl) (by rw[q2];rfl)).mono ?_;rintro e w' ⟨rfl,hS⟩;refine⟨by rw[q3];rfl,.inl ⟨rfl,_,rfl,A,M,_,_,h1.join hS,h2,q4 (by simp),.inl rfl⟩⟩
   ·have e0:leaveM ⟨p::q::l,ts⟩=none:=by unfold leaveM;simp only;rw[if_neg hf]
    rw[e0];refine(kleave_no h1.base (.inl (by rw[q1];cases hh:p.fr with|nil=>exact absurd hh hf|cons=>rfl))).mono ?_;rintro e w' ⟨rfl,hS⟩;exact⟨rfl,.inr ⟨rfl,same _ hS⟩⟩
def findW(label:Int)(fs:List PF):Value:=match fndP label fs 0 with
 |none=> .tuple #[.int .i64 0,.int .u64 45,.bool false]
 |some (u,i)=> .tuple #[.int .i64 (u:Int),.int .u64 (((fs[u]?.bind PF.h).map fun H=>H.ps[i]?.getD 0).getD 0),.bool true]
theorem idxL_lt(label:Int): ∀(l:List Int) (k i:Nat),idxL label l k=some i→k≤i∧i<k+l.length:=by
 intro l
 induction l with
 |nil=>intro k i h;cases h
 |cons z l ih=>
  intro k i h;unfold idxL at h;split at h
  ·injection h with h;subst h;simp
  ·have:=ih _ _ h;simp;omega
theorem fndP_at(label:Int): ∀(fs:List PF) (up u i:Nat),fndP label fs up=some (u,i)→up≤u∧∃p H,fs[u-up]? =some p∧p.h=some H∧i<H.ls.length:=by
 intro fs
 induction fs with
 |nil=>intro up u i h;cases h
 |cons p l ih=>
  intro up u i h;unfold fndP at h
  have next: ∀{u i:Nat},fndP label l (up+1)=some (u,i)→up≤u∧∃p' H,(p::l)[u-up]? =some p'∧p'.h=some H∧i<H.ls.length:=by
   intro u i h;obtain⟨h1,p',H,h2,h3⟩:=ih _ _ _ h;refine⟨by omega,p',H, ?_,h3⟩;rw[show u-up=(u-(up+1))+1 by omega,List.getElem?_cons_succ];exact h2
  cases hh:p.h with
  |none=>rw[hh]at h;exact next h
  |some H=>
   rw[hh]at h;simp only at h;cases hi:idxL label H.ls 0 with
   |none=>rw[hi]at h;exact next h
   |some j=>
    rw[hi]at h;simp only[Option.some.injEq,Prod.mk.injEq]at h;obtain⟨rfl,rfl⟩:=h;exact⟨Nat.le_refl _,p,H,by simp,hh,by have:=idxL_lt label _ _ _ hi;omega⟩
theorem ks_find(h:Ks w0 w c X k rs)(hm:c.m≤600)(hX: ∀x,x∈X→x<w.heap.size)(label:Int)(hl:W64 label):
 Calls Tryz.prog 9 #[.pointer (some ⟨c.kb,0,none⟩),.int .u64 label] w fun e w'=>e=.returned (findW label k.fs)∧Ks w0 w' c X k rs:=by
 obtain⟨A,M,top,last,h1,h2,h3,h4⟩:=h.ex;obtain⟨⟨f1,f2,hc,_⟩,hne⟩:=id h3;have hmany:=hc.many h2;have hmm:c.m*256≤600*256:=Nat.mul_le_mul_right _ hm;obtain⟨sr,so⟩:=RC.sr (label:=label) h2 hc (k.fs.length+1) 0 (by omega);have hl4:=h4
 obtain⟨z,hz,hzp⟩: ∃z,W64 z∧∀u i,fndP label k.fs 0=some (u,i)→dnF A c.m u top=some z∧u<k.fs.length∧i<20∧gtF A c.m (gtF A c.m z 3) ((2+2*i+1:Nat):Int)=(((k.fs[u]?.bind PF.h).map fun H=>H.ps[i]?.getD 0).getD 0):=by
  cases hf:fndP label k.fs 0 with
  |none=>exact⟨0,zJ,fun u i h=>by cases h⟩
  |some r=>
   obtain⟨u,i⟩:=r;obtain⟨_,p,H,q1,q2,q3⟩:=fndP_at label _ _ _ _ hf;rw[Nat.sub_zero]at q1;obtain⟨z,y,g1,e1,e2,_⟩:=(RC.dn h2 hc hne u).2 p q1;refine⟨z,e2.w h2, ?_⟩;rintro u' i' h;injection h with h
   injection h with ha hb
   subst ha hb;have hh:=(e2.has h2).2;rw[q2]at hh;have hlen:=(e2.ok.2 H q2).2.2.2.2
   have hu:u<k.fs.length:=by
    rcases Nat.lt_or_ge u k.fs.length with h|h
    ·exact h
    ·rw[List.getElem?_eq_none h]at q1;cases q1
   refine⟨e1,hu,by omega, ?_⟩;have:=(Hdl.at hh h2 q3).2;rw[show((2+2*i+1:Nat):Int)=2+2*(i:Int)+1 by omega,this,q1];simp[q2]
 refine(kfind_c h1.base label hl (k.fs.length+1) ((fndP label k.fs 0).map fun r=>(r.1,2+2*r.2+1)) z hz sr so (by omega) ?_ ?_).mono ?_
 ·intro u i hu;cases hf:fndP label k.fs 0 with
  |none=>rw[hf]at hu;cases hu
  |some r=>
   obtain⟨u',i'⟩:=r;rw[hf]at hu;simp only[Option.map_some,Option.some.injEq,Prod.mk.injEq]at hu;obtain⟨rfl,rfl⟩:=hu;obtain⟨a1,a2,a3,_⟩:=hzp _ _ hf;exact⟨by omega,by omega,a1⟩
 ·rcases h4 with h|⟨g,f,lab,up,fld,ok,q1,q2,q3,q4,q5,q6,q7⟩
  ·exact .inl h
  ·exact .inr ⟨g,f,lab,up,fld,ok,q1,q2,q3,q5,q6,fun e=>e▸q7⟩
 ·rintro e w' ⟨rfl,last',hS,hE⟩;refine⟨?_,A,M,top,last',h1.join hS,h2,h3, ?_⟩
  ·unfold findW findVal';cases hf:fndP label k.fs 0 with
   |none=>rfl
   |some r=>
    obtain⟨u',i'⟩:=r;obtain⟨a1,a2,a3,a4⟩:=hzp _ _ hf;simp only[Option.map_some];rw[a4]
  ·rcases hE with rfl|⟨g,f0,up,fld,ok,q1,q2,q3,q4,q5,q6⟩
   ·exact hl4.fr hS.fr (own_in c)
   ·refine .inr ⟨g,f0,label,up,fld,ok,q1,q2,q3, ?_,q5,hl,q6⟩;intro hm;have:=hX g hm;omega
def capL(a:List PF)(q:PF):List PF:=if deepP q.h=true then a++[q]else if q.fr=[]∧a≠[]then a else a++[⟨q.fr,none⟩]
def capM(n:Int)(k:PK):Option PK:=if n<0∨(k.fs.length:Int)-1≤n then none else match k.fs.drop n.toNat with
 |q::rest=>some ⟨rest,k.tk++[some (capL (k.fs.take n.toNat) q)]⟩
 |[]=>none
theorem ks_capture(h:Ks w0 w c X k rs)(hm:c.m≤600)(n:Int):
 Calls Tryz.prog 16 #[.pointer (some ⟨c.kb,0,none⟩),.int .i64 n] w fun e w'=>(e=.returned (.tuple #[.int .u64 45,.bool false])∧Ks w0 w' c X k rs)∨∃r k',e=.returned (.tuple #[.int .u64 r,.bool true])∧r≠45∧capM n k=some k'∧Ks w0 w' c X k' (rs++[r]):=by
 obtain⟨A,M,top,last,h1,h2,h3,h4⟩:=h.ex;have same: ∀A' w',St w w' c A' top last→Hq A' c.m M→Ks w0 w' c X k rs:=fun A' w' hS hH=>⟨A',M,top,last,h1.join hS,hH,h3,h4.fr hS.fr (own_in c)⟩
 obtain⟨⟨f1,f2,hc,_⟩,hne⟩:=id h3;have hmany:=hc.many h2;have hmm:c.m*256≤600*256:=Nat.mul_le_mul_right _ hm;by_cases hb:n<0∨16777215<n
 ·refine(kcapture_bad h1.base n hb).mono ?_;rintro e w' ⟨rfl,hS⟩;exact .inl ⟨rfl,same _ _ hS h2⟩
 ·obtain⟨up,rfl⟩: ∃up:Nat,n=up:=⟨n.toNat,by omega⟩;by_cases hu:k.fs.length≤up+1
  ·refine(kcapture_no h1.base up (by omega) ?_).mono ?_
   ·intro f hf;rcases Nat.lt_or_ge up k.fs.length with h|h
    ·obtain⟨z,y,g1,e1,e2,e3⟩:=(RC.dn h2 hc hne up).2 (k.fs[up]) (by simp[h]);rw[e1]at hf;injection hf with hf
     subst hf;rw[e2.low h2];have: ¬y%8=1:=fun hy=>by have:=e3.1 hy;omega
     simpa using this
    ·rw[(RC.dn h2 hc hne up).1 h]at hf;cases hf
   ·rintro e w' ⟨rfl,hS⟩;exact .inl ⟨rfl,same _ _ hS h2⟩
  ·
   obtain⟨a,q,rest,hfs,hal⟩: ∃a q rest,k.fs=a++q::rest∧a.length=up:=by
    refine⟨k.fs.take up,k.fs[up],k.fs.drop (up+1), ?_,by simp;omega⟩;rw[←List.drop_eq_getElem_cons,List.take_append_drop]
   have hrest:rest≠[]:=by
    rintro rfl;rw[hfs]at hu;simp at hu;omega
   have hM:capM (up:Int) k=some ⟨rest,k.tk++[some (capL a q)]⟩:=by
    unfold capM;rw[if_neg (by omega),Int.toNat_natCast,hfs,←hal,List.drop_left,List.take_left]
   obtain⟨ts,hts⟩: ∃ts,ts=k.tk:=⟨_,rfl⟩;have h3':Rep M top ⟨a++q::rest,ts⟩ rs:=by rw[hts,←hfs];exact h3
   rw[←hts]at hM;have hcase:=h3'.capture h2 hrest;rw[hal]at hcase;obtain⟨low,d1,d2,d3,d4⟩:=hcase;rcases d4 with⟨e1,e2⟩|⟨r,A1,e1,e2,e3,e4⟩
   ·refine(kcapture_nor h1.base up (by omega) low d2 d1 d3 e1).mono ?_;rintro e w' ⟨rfl,hS⟩;exact .inl ⟨rfl,same _ _ hS e2⟩
   ·have o1:(objF A c.m 6 [smW 0,top,low]).1=A1:=by rw[e1]
    have o2:(objF A c.m 6 [smW 0,top,low]).2=some r:=by rw[e1]
    have r45: ∀{M':Mem} {t ts':PK} {x:Int},Hq A c.m M→True:=fun _=>trivial
    cases hdp:deepP q.h with
    |true=>
     obtain⟨p1,p2,M',p3,p4⟩:=e3 hdp
     have hr1:r≠45:=by
      have:=(p4.rsw p3).1 r (by simp);rintro rfl;exact absurd this.2 (by decide)
     refine(kcapture_deep h1.base up (by omega) low r d2 e2 d1 d3 o2 (by rw[o1];exact p1) (by rw[o1];exact p2)).mono ?_;rintro e w' ⟨rfl,hS⟩;rw[o1]at hS;unfold capF at hS;rw[o1]at hS;refine .inr ⟨r,_,rfl,hr1,hM,_,M',_,_,h1.join hS,p3, ?_,.inl rfl⟩;unfold capL;rw[if_pos hdp];exact p4
    |false=>
     obtain⟨p1,p2,p3,p4⟩:=e4 hdp;by_cases hgo:q.fr=[]∧a≠[]
     ·obtain⟨ab,t1,t2,M',t3,t4⟩:=p3 hgo.1 hgo.2
      have hr1:r≠45:=by
       have:=(t4.rsw t3).1 r (by simp);rintro rfl;exact absurd this.2 (by decide)
      have hup:0<up:=by
       rw[←hal];cases a with
       |nil=>exact absurd rfl hgo.2
       |cons=>simp
      refine(kcapture_go h1.base up (by omega) low r d2 e2 ab t2 hup d1 d3 o2 (by rw[o1];exact p1) (by rw[o1,p2,hgo.1];rfl) (by rw[o1];exact t1)).mono ?_;rintro e w' ⟨rfl,hS⟩;rw[o1]at hS;refine .inr ⟨r,_,rfl,hr1,hM,_,M',_,_,h1.join hS,t3, ?_,.inl rfl⟩;unfold capL;rw[if_neg (by rw[hdp];decide),if_pos hgo];exact t4
     ·obtain⟨M',t3,t4⟩:=p4
      have hr1:r≠45:=by
       have:=(t4.rsw t3).1 r (by simp);rintro rfl;exact absurd this.2 (by decide)
      refine(kcapture_sh h1.base up (by omega) low r d2 e2 d1 d3 o2 (by rw[o1];exact p1) q.fr.isEmpty (by rw[o1];exact p2) ?_).mono ?_
      ·by_cases hq:q.fr=[]
       ·right;rw[←hal];cases a with
        |nil=>rfl
        |cons=>exact absurd ⟨hq,by simp⟩ hgo
       ·left;cases hh:q.fr with
        |nil=>exact absurd hh hq
        |cons=>rfl
      ·rintro e w' ⟨rfl,hS⟩;rw[o1]at hS;refine .inr ⟨r,_,rfl,hr1,hM,_,M',_,_,h1.join hS,t3, ?_,.inl rfl⟩;unfold capL;rw[if_neg (by rw[hdp];decide),if_neg hgo];exact t4
def toldL(rs:List Int)(n:Int):Int:=if n<0∨(rs.length:Int)≤n then 8 else rs[n.toNat]?.getD 8
def tookM(k:PK)(n:Int):Option (Option (List PF)):=if n<0∨(k.tk.length:Int)≤n then none else k.tk[n.toNat]?
def resM(n:Int)(k:PK):PK×Int:=match tookM k n with
 |none=>(k,202)
 |some none=>(k,201)
 |some (some l)=>(⟨l++ontoP k.fs,k.tk.set n.toNat none⟩,0)
def clnM(n:Int)(k:PK):Option PK×Int:=match tookM k n with
 |none=>(none,202)
 |some none=>(none,201)
 |some (some l)=>(some ⟨k.fs,k.tk++[some l]⟩,0)
theorem told_cases(hl:rs.length=k.tk.length)(n:Int):(tookM k n=none∧toldL rs n=8)∨∃i:Nat,n=i∧∃t,k.tk[i]? =some t∧tookM k n=some t∧∀r,rs[i]? =some r→toldL rs n=r:=by
 unfold tookM toldL;by_cases hc:n<0∨(k.tk.length:Int)≤n
 ·rw[if_pos hc,if_pos (by rw[hl];exact hc)];exact .inl ⟨rfl,rfl⟩
 ·rw[if_neg hc,if_neg (by rw[hl];exact hc)];obtain⟨i,rfl⟩: ∃i:Nat,n=i:=⟨n.toNat,by omega⟩;rw[Int.toNat_natCast];refine .inr ⟨i,rfl,k.tk[i]'(by omega),by simp,by simp,fun r hr=>by rw[hr];rfl⟩
theorem ks_resume(h:Ks w0 w c X k rs)(n:Int):
 Calls Tryz.prog 18 #[.pointer (some ⟨c.kb,0,none⟩),.int .u64 (toldL rs n)] w fun e w'=>e=.returned (.int .i64 (resM n k).2)∧Ks w0 w' c X (resM n k).1 rs:=by
 obtain⟨A,M,top,last,h1,h2,h3,h4⟩:=h.ex;have same: ∀w',St w w' c A top last→Ks w0 w' c X k rs:=fun w' hS=>⟨A,M,top,last,h1.join hS,h2,h3,h4.fr hS.fr (own_in c)⟩
 rcases told_cases (h3.rsw h2).2 n with⟨e1,e2⟩|⟨i,rfl,t,e1,e2,e3⟩
 ·unfold resM;rw[e1,e2];refine(kresume_no h1.base 8 (by unfold W64;omega) (by rw[fresh_8];omega)).mono ?_;rintro e w' ⟨rfl,hS⟩;rw[fresh_8];exact⟨rfl,same _ hS⟩
 ·cases t with
  |none=>
   obtain⟨r,q1,q2,q3⟩:=h3.used h2 e1;unfold resM;rw[e2,e3 r q1];refine(kresume_no h1.base r q2 (by rw[q3];omega)).mono ?_;rintro e w' ⟨rfl,hS⟩;rw[q3];exact⟨rfl,same _ hS⟩
  |some l=>
   obtain⟨r,q1,q2,q3,M',q4,q5⟩:=h3.resume h2 e1;unfold resM;rw[e2,e3 r q1,Int.toNat_natCast];refine(kresume_yes h1.base r q2 q3).mono ?_;rintro e w' ⟨rfl,hS⟩;exact⟨rfl,_,M',_,_,h1.join hS,q4,q5,.inl rfl⟩
theorem Rep.take(h:Rep M x k rs)(hp:Hq A m M){i:Nat}{l:List PF}(hi:k.tk[i]? =some (some l)): ∃r hi lo ff,rs[i]? =some r∧Res M r 0 hi lo∧RC M 45 l hi ff∧l≠[]:=by
 obtain⟨⟨f1,f2,h1,h2,h3⟩,_⟩:=h;obtain⟨r,g1,e1,⟨hi',lo,a,q,u1,u2,rfl,R1,c1,q1,rfl,nr,d1⟩,_⟩:=RTs.at h2 hi;exact⟨r,hi',lo,u1++(u2++[]),e1,R1,RC.app.2 ⟨lo,u1,u2++[],c1,⟨45,u2,[],q1,⟨rfl,rfl⟩,rfl,by simp⟩,rfl,by simpa using d1⟩,by simp⟩
theorem Rep.more{M':Mem}{t:List PF}{r:Int}{fq:List Int}(h:Rep M x k rs)(ho:Off [] M M')(hT:RT M' (some t) r fq)(hn: ∀z,z∈fq→M z=none):Rep M' x ⟨k.fs,k.tk++[some t]⟩ (rs++[r]):=by
 obtain⟨⟨f1,f2,h1,h2,h3⟩,h4⟩:=h;refine⟨⟨f1,f2++fq,RC.off ho ho.k80 h1 (by simp),RTs.add hT (RTs.off ho ho.k80 h2 (by simp)) ?_, ?_⟩,h4⟩
 ·intro z hz hc;obtain⟨o,ho,_⟩:=RTs.dom h2 z hz;rw[hn z hc]at ho;cases ho
 ·intro z hz hc;rcases List.mem_append.1 hc with hc|hc
  ·exact h3 z hz hc
  ·obtain⟨o,ho,_⟩:=RC.dom h1 z hz;rw[hn z hc]at ho;cases ho
theorem ks_clone(h:Ks w0 w c X k rs)(n:Int):
 Calls Tryz.prog 42 #[.pointer (some ⟨c.kb,0,none⟩),.int .u64 (toldL rs n)] w fun e w'=> ∃r ok,e=.returned (.tuple #[.int .u64 r,.bool ok,.int .i64 (clnM n k).2])∧((ok=false∧Ks w0 w' c X k rs)∨(ok=true∧(clnM n k).2=0∧∃k',(clnM n k).1=some k'∧Ks w0 w' c X k' (rs++[r]))):=by
 obtain⟨A,M,top,last,h1,h2,h3,h4⟩:=h.ex;have same: ∀A' w',St w w' c A' top last→Hq A' c.m M→Ks w0 w' c X k rs:=fun A' w' hS hH=>⟨A',M,top,last,h1.join hS,hH,h3,h4.fr hS.fr (own_in c)⟩
 rcases told_cases (h3.rsw h2).2 n with⟨e1,e2⟩|⟨i,rfl,t,e1,e2,e3⟩
 ·unfold clnM;rw[e1,e2];refine(kclone_no h1.base 8 (by unfold W64;omega) (by rw[fresh_8];omega)).mono ?_;rintro e w' ⟨rfl,hS⟩;rw[fresh_8];exact⟨_,_,rfl,.inl ⟨rfl,same _ _ hS h2⟩⟩
 ·cases t with
  |none=>
   obtain⟨r,q1,q2,q3⟩:=h3.used h2 e1;unfold clnM;rw[e2,e3 r q1];refine(kclone_no h1.base r q2 (by rw[q3];omega)).mono ?_;rintro e w' ⟨rfl,hS⟩;rw[q3];exact⟨_,_,rfl,.inl ⟨rfl,same _ _ hS h2⟩⟩
  |some l=>
   obtain⟨r,hi,lo,ff,q1,q2,q3,q4⟩:=h3.take h2 e1;unfold clnM;rw[e2,e3 r q1];refine(kclone_all h1.base h2 q2 q3 q4).mono ?_;rintro e w' (⟨rfl,A',hS,hH⟩|⟨o,A',M',fq,rfl,hS,hH,hO,hT,hN⟩)
   ·exact⟨_,_,rfl,.inl ⟨rfl,same _ _ hS hH⟩⟩
   ·exact⟨_,_,rfl,.inr ⟨rfl,rfl,_,rfl,A',M',top,last,h1.join hS,hH,h3.more hO hT hN,h4.fr hS.fr (own_in c)⟩⟩
end
section
open Go.ChangeShapes Go.WideShapes Go.RowKit Go.Maps
variable{w w' W:World}{c:Tk}{m n:Nat}{cl:Int→Int}{wv:Value}{T T0:Tr}{ls:List (List Int)}{rs:List Rw}{q j:Nat}
theorem set_mid{α:Type}(a b:List α)(x y:α):(a++x::b).set a.length y=a++y::b:=by simp
theorem get_mid{α:Type}(a b:List α)(x:α):(a++x::b)[a.length]? =some x:=by simp
theorem RowsIn.step{D E:List (List Int)}{P S:List Int}{x:Int}(h:RowsIn w rs (D++(P++x::S)::E))(ap:RowsAp rs){r:Rw}(hr:rs[D.length]? =some r)(hj:P.length<r.l.length)(y:Int):
 RowsIn (w.setCell ⟨r.g,r.o+P.length,none⟩ (.int .u64 y)) rs (D++(P++y::S)::E):=by
 have:=h.store ap hr (get_mid D E (P++x::S)) hj y;rw[set_mid,set_mid]at this;exact this
theorem RowsIn.at{D E:List (List Int)}{P S:List Int}{x:Int}(h:RowsIn w rs (D++(P++x::S)::E)){r:Rw}(hr:rs[D.length]? =some r)(hj:P.length<r.l.length):
 r.va=some ⟨r.g,r.o,none⟩∧w.cell? ⟨r.g,r.o+P.length,none⟩=some (.int .u64 x)∧w.frozen? ⟨r.g,r.o+P.length,none⟩=false:=by
 have:=(h.2 _ r _ hr (get_mid D E (P++x::S))).cell hj
 rwa[get_mid]at this
theorem drop_cons'{α:Type}(l:List α)(i:Nat)(x:α)(h:l[i]? =some x):l.drop i=x::l.drop (i+1):=by
 have hi:i<l.length:=by
  rcases Nat.lt_or_ge i l.length with h2|h2
  ·exact h2
  ·rw[List.getElem?_eq_none h2]at h;cases h
 rw[List.drop_eq_getElem_cons hi];rw[List.getElem?_eq_getElem hi]at h;injection h with h
 rw[h]
def TTr(cl:Int→Int)(m:Nat)(T0:Tr)(ls:List (List Int))(q j:Nat):Tr:=(followL cl m (followR cl m T0 (ls.take q)).1 ((ls[q]?.getD []).take j)).1
def TTl(cl:Int→Int)(m:Nat)(T0:Tr)(ls:List (List Int))(q j:Nat):List Int:=(followL cl m (followR cl m T0 (ls.take q)).1 ((ls[q]?.getD []).take j)).2
structure RQ(c:Tk)(m n:Nat)(cl:Int→Int)(T0:Tr)(ls:List (List Int))(rs:List Rw)(W wr:World)(q:Nat):Prop where
 tr: ∃wv,TrAt wr c m n cl wv (followR cl m T0 (ls.take q)).1
 rows:RowsIn wr rs ((followR cl m T0 (ls.take q)).2++ls.drop q)
 fx:FX c (rs.map Rw.g) W wr
structure RI(c:Tk)(m n:Nat)(cl:Int→Int)(T0:Tr)(ls:List (List Int))(rs:List Rw)(W wr:World)(q j:Nat):Prop where
 tr: ∃wv,TrAt wr c m n cl wv (TTr cl m T0 ls q j)
 rows:RowsIn wr rs ((followR cl m T0 (ls.take q)).2++(TTl cl m T0 ls q j++(ls[q]?.getD []).drop j)::ls.drop (q+1))
 fx:FX c (rs.map Rw.g) W wr
theorem row_some(hq:q<ls.length):ls[q]? =some (ls[q]?.getD []):=by rw[List.getElem?_eq_getElem hq];rfl
theorem RQ.start(h:TrAt W c m n cl wv T0)(hR:RowsIn W rs ls)(hF:FX c (rs.map Rw.g) W W):RQ c m n cl T0 ls rs W W 0:=
 ⟨⟨wv,by simpa[followR]using h⟩,by simpa[followR]using hR,hF⟩
theorem RQ.inner(h:RQ c m n cl T0 ls rs W w q)(hq:q<ls.length):RI c m n cl T0 ls rs W w q 0:=by
 refine⟨by simpa[TTr,followL]using h.tr, ?_,h.fx⟩;have:=h.rows;rw[drop_cons' ls q _ (row_some hq)]at this;simpa[TTl,followL]using this
theorem RI.outer(h:RI c m n cl T0 ls rs W w q j)(hq:q<ls.length)(hj:(ls[q]?.getD []).length≤j):RQ c m n cl T0 ls rs W w (q+1):=by
 obtain⟨wv,h1⟩:=h.tr;have h2:=h.rows;unfold TTr at h1;unfold TTl at h2;rw[List.take_of_length_le hj]at h1 h2;rw[List.drop_eq_nil_of_le hj,List.append_nil]at h2;have ht:=followR_take cl m T0 ls q hq;refine⟨⟨wv,by rw[ht];exact h1⟩,by rw[ht];simpa using h2,h.fx⟩
theorem RI.lens(h:RI c m n cl T0 ls rs W w q j)(hq:q<ls.length)(hj:j≤(ls[q]?.getD []).length):(followR cl m T0 (ls.take q)).2.length=q∧(TTl cl m T0 ls q j).length=j:=by
 refine⟨by rw[len_followR,List.length_take];omega, ?_⟩;unfold TTl;rw[len_followL,List.length_take];omega
theorem RI.len(h:RI c m n cl T0 ls rs W w q j)(hq:q<ls.length)(hj:j≤(ls[q]?.getD []).length){r:Rw}(hr:rs[q]? =some r):r.l.length=(ls[q]?.getD []).length:=by
 obtain⟨l1,l2⟩:=h.lens hq hj;have h0:=h.rows;have h2:=(h0.2 q r _ hr (by have:=get_mid (followR cl m T0 (ls.take q)).2 (ls.drop (q+1)) (TTl cl m T0 ls q j++(ls[q]?.getD []).drop j);rw[l1]at this;exact this)).1;rw[List.length_append,l2,List.length_drop]at h2;omega
theorem RI.word(h:RI c m n cl T0 ls rs W w q j)(hq:q<ls.length)(hj:j<(ls[q]?.getD []).length){r:Rw}(hr:rs[q]? =some r):
 r.va=some ⟨r.g,r.o,none⟩∧w.cell? ⟨r.g,r.o+j,none⟩=some (.int .u64 ((ls[q]?.getD [])[j]?.getD 0))∧w.frozen? ⟨r.g,r.o+j,none⟩=false:=by
 obtain⟨l1,l2⟩:=h.lens hq (Nat.le_of_lt hj);have hlen:=h.len hq (Nat.le_of_lt hj) hr;have h0:=h.rows;rw[drop_cons' (ls[q]?.getD []) j ((ls[q]?.getD [])[j]?.getD 0) (by rw[List.getElem?_eq_getElem hj];rfl)]at h0;have:=h0.at (by rw[l1];exact hr) (by rw[l2,hlen];exact hj);rw[l2]at this;exact this
theorem RI.step(h:RI c m n cl T0 ls rs W w q j)(ap:RowsAp rs)(far: ∀r,r∈rs→c.far r.g)(hq:q<ls.length)(hj:j<(ls[q]?.getD []).length){r:Rw}(hr:rs[q]? =some r){e:Ending}
 (hd:FwDone c m n cl w (zT cl m (TTr cl m T0 ls q j) ((ls[q]?.getD [])[j]?.getD 0)) e w'):
 RI c m n cl T0 ls rs W (w'.setCell ⟨r.g,r.o+j,none⟩ (.int .u64 (zT cl m (TTr cl m T0 ls q j) ((ls[q]?.getD [])[j]?.getD 0)).2)) q (j+1)∧w'.frozen? ⟨r.g,r.o+j,none⟩=false∧(∃v,w'.cell? ⟨r.g,r.o+j,none⟩=some v):=by
 obtain⟨_,⟨wv,hT⟩,hF⟩:=hd;obtain⟨l1,l2⟩:=h.lens hq (Nat.le_of_lt hj);have hlen:=h.len hq (Nat.le_of_lt hj) hr;have hmem:r∈rs:=List.mem_of_getElem? hr;have ht:=followL_take cl m (followR cl m T0 (ls.take q)).1 (ls[q]?.getD []) j hj;have h0:=h.rows.fb hF far;rw[drop_cons' (ls[q]?.getD []) j ((ls[q]?.getD [])[j]?.getD 0) (by rw[List.getElem?_eq_getElem hj];rfl)]at h0;have hat:=h0.at (by rw[l1];exact hr) (by rw[l2,hlen];exact hj);have hst:=h0.step ap (by rw[l1];exact hr) (by rw[l2,hlen];exact hj) (zT cl m (TTr cl m T0 ls q j) ((ls[q]?.getD [])[j]?.getD 0)).2;rw[l2]at hat hst;refine⟨⟨⟨wv, ?_⟩, ?_,(h.fx.fb hF).set (List.mem_map_of_mem hmem) _⟩,hat.2.2,_,hat.2.1⟩
 ·have e1:TTr cl m T0 ls q (j+1)=(zT cl m (TTr cl m T0 ls q j) ((ls[q]?.getD [])[j]?.getD 0)).1:=by unfold TTr;rw[ht]
  rw[e1];exact hT.other (far r hmem) _
 ·have e2:TTl cl m T0 ls q (j+1)=TTl cl m T0 ls q j++[(zT cl m (TTr cl m T0 ls q j) ((ls[q]?.getD [])[j]?.getD 0)).2]:=by unfold TTl TTr;rw[ht]
  rw[e2];simpa using hst
theorem RI.bd(hB:BdR cl m T0 ls)(hq:q<ls.length)(hj:j<(ls[q]?.getD []).length):(TTr cl m T0 ls q j).Bd∧0≤(ls[q]?.getD [])[j]?.getD 0∧(ls[q]?.getD [])[j]?.getD 0<18446744073709551616:=
 (hB.at q hq).at j hj
structure RD(c:Tk)(m n:Nat)(cl:Int→Int)(TT:Tr)(ls':List (List Int))(rs:List Rw)(W wr:World)(g:Nat)(T:Tr)(wv:Value):Prop where
 dr:Drains cl m g T TT
 tr:TrAt wr c m n cl wv T
 rows:RowsIn wr rs ls'
 fx:FX c (rs.map Rw.g) W wr
theorem RQ.drain{ls':List (List Int)}(h:RQ c m n cl T0 ls rs W w ls.length){TT:Tr}(hR:Runs cl m T0 ls TT ls'): ∃g T wv,RD c m n cl TT ls' rs W w g T wv:=by
 obtain⟨wv,h1⟩:=h.tr;have h2:=h.rows;rw[List.take_length]at h1 h2;rw[List.drop_length,List.append_nil]at h2;obtain⟨g,hg⟩:=hR.dr;exact⟨g,_,wv,hg,h1,by rw[hR.eq];exact h2,h.fx⟩
theorem work_form(h:TrAt w c m n cl wv T): ∃a cap,wv=.slice a T.work.length cap∧T.work.length≤cap:=by
 obtain⟨_,h⟩:=h.wk;rcases h with⟨h1,h2⟩|⟨g,cap,cur,hv,_,_,hn,_⟩
 ·exact⟨none,0,by rw[h1,h2],by omega⟩
 ·exact⟨_,_,hv,hn⟩
theorem RD.pop{TT:Tr}{ls':List (List Int)}{g:Nat}(h:RD c m n cl TT ls' rs W w g T wv)(far: ∀r,r∈rs→c.far r.g)(hw:T.work≠[]):
 ∃(g' a cap k:Nat) (x:Int),g=g'+1∧T.work.length=k+1∧k<2000000∧wv=.slice (some ⟨a,0,none⟩) (k+1) cap∧k+1≤cap∧w.cell? ⟨a,k,none⟩=some (.int .u64 x)∧0≤x∧x<18446744073709551616∧
  ∀w',Fr [] w w'→∃T1,TrAt (w'.setCell ⟨c.tb,5,none⟩ (.slice (some ⟨a,0,none⟩) k cap)) c m n cl (.slice (some ⟨a,0,none⟩) k cap) T1∧c.B≤(w'.setCell ⟨c.tb,5,none⟩ (.slice (some ⟨a,0,none⟩) k cap)).heap.size∧
   (∀q:Nat,(q:Int)<countedF T1.A m x→(scanN cl m x T1 q).Bd)∧
   ∀w2,(∃wv',TrAt w2 c m n cl wv' (scanT cl m x T1))∧FB c (w'.setCell ⟨c.tb,5,none⟩ (.slice (some ⟨a,0,none⟩) k cap)) w2→∃T' wv',RD c m n cl TT ls' rs W w2 g' T' wv':=by
 have hd:=h.dr;cases hd with
 |done _ hn=>exact absurd hn hw
 |step k _ x ws _ h1 h2 h3 h4=>
  have htr:=h.tr;have hl:T.work.length=ws.length+1:=by rw[h1];simp
  have hown:=htr.wk
  obtain⟨a,cap,hv,hc⟩: ∃a cap,wv=.slice (some ⟨a,0,none⟩) (ws.length+1) cap∧ws.length+1≤cap:=by
   obtain⟨_,h⟩:=hown;rcases h with⟨_,h5⟩|⟨g,cap,cur,hv,_,_,hn,_⟩
   ·omega
   ·exact⟨g,cap,by rw[hv,hl],by omega⟩
  subst hv;rw[hl]at hown;have hcell:w.cell? ⟨a,ws.length,none⟩=some (.int .u64 x):=zX hown (by rw[h1];simp);have hx:=htr.w0 x (by rw[h1];simp);refine⟨k,a,cap,ws.length,x,rfl,hl,by omega,rfl,hc,hcell,hx.1,hx.2, ?_⟩;intro w' hF;have hown2:=own_take (zL hown hF (by simp)) ws.length (by omega);have hmap:(T.work.map (Value.int .u64)).take (ws.length*1)=ws.map (Value.int .u64):=by rw[h1];simp
  rw[hmap]at hown2;obtain⟨q1,q2⟩:=(htr.setWork (S:=[]) hF (by simp) (fun y hy=>htr.w0 y (by rw[h1];simp[hy])) hown2);have q2:=q2 h.fx.ge;refine⟨_,q1,q2.ge,h3,fun w2 hw2=> ?_⟩;obtain⟨⟨wv',r1⟩,r2⟩:=hw2;exact⟨_,wv',h4,r1,(h.rows.fb q2 far).fb r2 far,(h.fx.fb q2).fb r2⟩
theorem RD.done{TT:Tr}{ls':List (List Int)}{g:Nat}(h:RD c m n cl TT ls' rs W w g T wv)(hw:T.work=[]):T=TT:=by
 have hd:=h.dr;cases hd with
 |done _ hn=>rfl
 |step k _ x ws _ h1 h2 h3 h4=>rw[hw]at h1;simp at h1
theorem FX.fin{c:Tk}{gs:List Nat}{w W w':World}(h:FX c gs W w')(hF:Fr [] w W)(h1:w.heap.size≤c.tb)(h2:w.heap.size≤c.sb)(h3:w.heap.size≤c.B):Fr (c.b::c.wb::c.lb::gs) w w':=
 ⟨h.os.trans hF.os,h.tape.trans hF.tape,h.output.trans hF.output,Nat.le_trans hF.size h.size,fun k hk hn=>by
   simp only[List.mem_cons,not_or]at hn;rw[h.block k (by omega) (by simp only[Tk.own,List.mem_cons,List.not_mem_nil,or_false,not_or];exact⟨by omega,by omega,hn.1,hn.2.1,hn.2.2.1⟩) hn.2.2.2];exact hF.block k hk (by simp)⟩
end
end Go.Proofs.YtghkahcogphomaaGreat
