/- Fibers: a part of the walk. No condition. -/
import Derived.Test.YtghkahcogphomaaGreatQk21
set_option linter.all false
namespace Go.Proofs.YtghkahcogphomaaGreat
section
variable{A A':Ar}{m:Nat}{M M' M'':Mem}{x y s prev below hand hd l0 b:Int}{cap:Nat}{f f':Frm}{fs r0 r:List Frm}{fp fp' fq:List Int}{p:PF}{h0:Option PH}{rest:List Frm}{fpl:List Int}
theorem Frm.fresh_ok{cl:Int}(h:Plain cl)(sl wd:Nat):(Frm.fresh cl sl wd).Ok:=by
 refine⟨h,fun z hz=> ?_,fun z hz=>(by cases hz)⟩;simp only[Frm.fresh]at hz;rw[List.eq_of_mem_replicate hz];exact⟨mkW_bd 5 3 (by omega) (by omega),by decide⟩
theorem fits_fresh{cl:Int}{sl wd:Nat}(hf:fits cap fs)(hc:szL fs+5+sl+wd≤cap):fits cap (Frm.fresh cl sl wd::fs):=by
 refine⟨?_, ?_, ?_, ?_,hf⟩
 ·simp only[Frm.fresh,List.length_replicate];omega
 ·simp[Frm.fresh]
 ·simp[Frm.fresh]
 ·simp[Frm.fresh]
inductive Room1(M:Mem):Int→Int→Nat→List Int→Int→List Frm→List Int→Prop
 |free {s:Int} {cap:Nat} (seg:Seg M s 45 cap []):Room1 M s 45 cap [] (-1) [] [s]
 |on {s prev l0:Int} {cap:Nat} {f:Frm} {fs rest:List Frm} {fp:List Int} (seg:Seg M s prev cap (enc l0 (f::fs))) (ok:fits cap (f::fs)) (low:Low M prev l0 rest fp) (out:s∉fp):Room1 M s prev cap (enc l0 (f::fs)) (szL fs) (f::fs++rest) (s::fp)
 |above {s prev b:Int} {cap:Nat} {f:Frm} {fs:List Frm} {fp:List Int} (seg:Seg M s prev cap []) (low:Low M prev b (f::fs) fp) (out:s∉fp):Room1 M s prev cap [] b (f::fs) (s::fp)
variable{ws:List Int}
theorem Room1.seg(h:Room1 M s prev cap ws b fs fp):Seg M s prev cap ws:=by cases h<;>assumption
theorem Room1.mem(h:Room1 M s prev cap ws b fs fp):s∈fp:=by cases h<;>simp
theorem Room1.push(h:Room1 M s prev cap ws b fs fp){seg0:Int}(hp:Hq A m M)(hf:Fib M x y seg0 b hd)(hh:HdR M hd h0)(hx:x∉fp)(hok:PF.Ok ⟨fs,h0⟩){cl:Int}(hcl:Plain cl)(sl wd:Nat)(hc:ws.length+5+sl+wd≤cap):
 ∃M',Hq (pushS A m x cl sl wd s) m M'∧RF M' x y ⟨Frm.fresh cl sl wd::fs,h0⟩ (x::fp)∧Off [s,x] M M'∧Kp8 M M':=by
 obtain⟨M',h1,h2,h3,h4⟩:=hp.pushed hf h.seg sl wd hc hcl.1
 have hk:Kp8 M M':=h4.k8 (by
  intro z hz o hzo;simp only[List.mem_cons,List.not_mem_nil,or_false]at hz;rcases hz with rfl|rfl
  ·obtain⟨o2,h1,_,h2⟩:=h.seg.obj;rw[h1]at hzo;injection hzo with hzo;subst hzo;omega
  ·obtain⟨o2,h1,_,h2⟩:=hf.obj;rw[h1]at hzo;injection hzo with hzo;subst hzo;omega)
 have hok':PF.Ok ⟨Frm.fresh cl sl wd::fs,h0⟩:=⟨fun g hg=>(by
  rcases List.mem_cons.1 hg with rfl|hg
  ·exact Frm.fresh_ok hcl sl wd
  ·exact hok.1 g hg),hok.2⟩
 refine⟨M',h1,⟨⟨s,ws.length,hd,fp,h2, ?_,hh.k8 hk,rfl,hx⟩,hok'⟩,h4,hk⟩;simp only;cases h with
 |free seg=>
  have e:[]++(Frm.fresh cl sl wd).enc (-1)=enc (-1) [Frm.fresh cl sl wd]:=rfl;rw[e]at h3;have:=Low.cons h3 (fits_fresh (fs:=[]) trivial (by simp only[szL];simpa using hc)) .nil (by simp);exact .full this
 |on seg ok low out=>
  rename_i l1 g gs rest fq
  have e:enc l1 (g::gs)++(Frm.fresh cl sl wd).enc (szL gs)=enc l1 (Frm.fresh cl sl wd::g::gs):=rfl;rw[e]at h3;rw[len_enc]at hc⊢
  have:=Low.cons h3 (fits_fresh ok (by omega)) (low.off h4 (by
   intro z hz hc;simp only[List.mem_cons,List.not_mem_nil,or_false]at hc;rcases hc with rfl|rfl
   ·exact out hz
   ·exact hx (by simp[hz]))) out
  exact .full this
 |above seg low out=>
  rename_i g gs fq
  have e:[]++(Frm.fresh cl sl wd).enc b=enc b [Frm.fresh cl sl wd]:=rfl;rw[e]at h3
  have:=Low.cons h3 (fits_fresh (fs:=[]) trivial (by simp only[szL];simpa using hc)) (low.off h4 (by
   intro z hz hc;simp only[List.mem_cons,List.not_mem_nil,or_false]at hc;rcases hc with rfl|rfl
   ·exact out hz
   ·exact hx (by simp[hz]))) out
  exact .full this
theorem RF.place(h:RF M x y p fp)(hp:Hq A m M)(sl wd:Nat)(hn:sl+wd≤180):
 (rmF A m (gtF A m x 1)≠0→0≤nmF A m (gtF A m x 1) 1∧nmF A m (gtF A m x 1) 1≤1000)∧
 (((placeF A m x (5+sl+wd)).2=none∧Hq (placeF A m x (5+sl+wd)).1 m M)∨
   ∃s prev cap ws b seg0 hd fq M',(placeF A m x (5+sl+wd)).2=some s∧Hq (placeF A m x (5+sl+wd)).1 m M'∧Off [] M M'∧Room1 M' s prev cap ws b p.fr fq∧Fib M' x y seg0 b hd∧HdR M' hd p.h∧x∉fq∧(∀z,z∈fq→z∈fp∨M z=none)∧ws.length+5+sl+wd≤cap):=by
 obtain⟨⟨s,b,hd,fq,h1,h2,h3,rfl,h5⟩,hok⟩:=h;obtain⟨fr,h0⟩:=p;simp only at h2 h3⊢;have g1:=(h1.g hp).2.1
 have fresh: ∀{z:Int} {M1:Mem},M z=none→z≠x∧z∉fq:=by
  intro z M1 hz;refine⟨?_,fun hc=> ?_⟩
  ·rintro rfl;obtain⟨o,ho,_⟩:=h1.obj;rw[hz]at ho;cases ho
  ·obtain⟨o,ho,_⟩:=h2.dom z hc;rw[hz]at ho;cases ho
 rw[g1];unfold placeF;rw[g1];cases h2 with
 |bare=>
  have hr:rmF A m 45=0:=by unfold rmF;rw[(gtF_45 0).2];rfl
  refine⟨fun hc=>absurd hr hc, ?_⟩;rw[if_pos hr,show max ((5:Int)+sl+wd) 24=(max (5+sl+wd) 24:Nat) by omega];rcases hp.segment zG (max (5+sl+wd) 24)with⟨e1,e2⟩|⟨z,e1,e2,e3,e4,M1,p1,O1,S1⟩
  ·exact .inl ⟨e1,e2⟩
  ·refine .inr ⟨z,45,_,[], -1,45,hd,[z],M1,e1,p1,O1,.free S1,h1.off O1 (by simp),h3.k8 O1.k80, ?_, ?_, ?_⟩
   ·simpa using(fresh (M1:=M1) e2).1.symm
   ·intro v hv;right;simp at hv;rw[hv];exact e2
   ·simp only[List.length_nil];omega
 |empty seg pos=>
  rename_i cap
  have hr:=seg.rm hp;have hu:=seg.used hp;have hcp:=seg.cp hp;simp only[List.length_nil]at hu;have hsx:s≠x:=by rintro rfl;exact h5 (by simp)
  refine⟨fun _=>by rw[hu];omega, ?_⟩;rw[if_neg (by omega),hr,hu];by_cases hc:0+(5+sl+wd)≤cap
  ·rw[if_pos (by omega)];exact .inr ⟨s,45,cap,[], -1,s,hd,[s],M,rfl,hp,Off.refl _ _,.free seg,h1,h3,h5,fun v hv=> .inl (List.mem_cons_of_mem _ hv),by simpa using hc⟩
  ·rw[if_neg (by omega),if_pos (by omega)];unfold grownF;rw[hr,hu,seg.g0 hp,show min (238:Int) (max (5+sl+wd+(0:Nat)) (2*cap))=(min 238 (max (5+sl+wd) (2*cap)):Nat) by omega];rcases hp.segment zG (min 238 (max (5+sl+wd) (2*cap)))with⟨e1,e2⟩|⟨z,e1,e2,e3,e4,M1,p1,O1,S1⟩
   ·rw[e1];exact .inl ⟨rfl,e2⟩
   ·rw[e1];have S0:=seg.off O1 (by simp);have hne:s≠z:=by rintro rfl;exact(fresh (M1:=M1) e2).2 (by simp)
    obtain⟨M2,p2,O2,S2⟩:=p1.refill S0 S1 hne (by simp);have hu1:nmF (segF A m 45 (min 238 (max (5+sl+wd) (2*cap)):Nat)).1 m s 1=(0:Nat):=by rw[S0.used p1];rfl
    rw[hu1]at p2;have O:Off [] M M2:=off_drop O1 O2 e2;refine .inr ⟨z,45,_,[], -1,s,hd,[z],M2,rfl,p2,O,.free S2,h1.off O (by simp),h3.k8 O.k80, ?_, ?_, ?_⟩
    ·simpa using(fresh (M1:=M1) e2).1.symm
    ·intro v hv;right;simp at hv;rw[hv];exact e2
    ·simp only[List.length_nil];omega
 |full low=>
  rename_i f fr
  generalize hg:f::fr=g at low⊢;cases low with
  |nil=>cases hg
  |cons seg ok low out=>
   rename_i prev l0 cap f2 fs rest fpl
   have hr:=seg.rm hp;have hu:=seg.used hp;have hcp:=seg.cp hp;have hle:=seg.le;rw[len_enc]at hu hle;have hpw:W64 prev:=by rw[←seg.g0 hp];exact gtF_w hp.wdA _ _ _
   have hsz:5≤szL (f2::fs):=by simp only[szL,Frm.len];omega
   refine⟨fun _=>by rw[hu];omega, ?_⟩;rw[if_neg (by omega),hr,hu];by_cases hc:szL (f2::fs)+(5+sl+wd)≤cap
   ·rw[if_pos (by omega)];exact .inr ⟨s,prev,cap,_,_,s,hd,s::fpl,M,rfl,hp,Off.refl _ _,.on seg ok low out,h1,h3,h5,fun v hv=> .inl (List.mem_cons_of_mem _ hv),by rw[len_enc];omega⟩
   ·rw[if_neg (by omega)];by_cases hc2:szL (f2::fs)+(5+sl+wd)≤238
    ·rw[if_pos (by omega)];unfold grownF;rw[hr,hu,seg.g0 hp,show min (238:Int) (max (5+sl+wd+(szL (f2::fs):Nat)) (2*cap))=(min 238 (max (5+sl+wd+szL (f2::fs)) (2*cap)):Nat) by omega];rcases hp.segment hpw (min 238 (max (5+sl+wd+szL (f2::fs)) (2*cap)))with⟨e1,e2⟩|⟨z,e1,e2,e3,e4,M1,p1,O1,S1⟩
     ·rw[e1];exact .inl ⟨rfl,e2⟩
     ·rw[e1];have S0:=seg.off O1 (by simp);have hne:s≠z:=by rintro rfl;exact(fresh (M1:=M1) e2).2 (by simp)
      obtain⟨M2,p2,O2,S2⟩:=p1.refill S0 S1 hne (by rw[len_enc];omega);have hu1:nmF (segF A m prev (min 238 (max (5+sl+wd+szL (f2::fs)) (2*cap)):Nat)).1 m s 1=(szL (f2::fs):Nat):=by rw[S0.used p1,len_enc]
      rw[hu1]at p2;have O:Off [] M M2:=off_drop O1 O2 e2;have hz:=(fresh (M1:=M1) e2);simp only[List.mem_cons,not_or]at hz h5;refine .inr ⟨z,prev,_,_,_,s,hd,z::fpl,M2,rfl,p2,O,.on S2 ?_ (low.off O (by simp)) hz.2.2,h1.off O (by simp),h3.k8 O.k80, ?_, ?_, ?_⟩
      ·exact fits_mono (by omega) ok
      ·simp only[List.mem_cons,not_or];exact⟨hz.1.symm,h5.2⟩
      ·intro v hv;rcases List.mem_cons.1 hv with rfl|hv
       ·exact .inr e2
       ·exact .inl (by simp[hv])
      ·rw[len_enc];omega
    ·rw[if_neg (by omega),show max ((5:Int)+sl+wd) 24=(max (5+sl+wd) 24:Nat) by omega];rcases hp.segment (seg.w hp) (max (5+sl+wd) 24)with⟨e1,e2⟩|⟨z,e1,e2,e3,e4,M1,p1,O1,S1⟩
     ·exact .inl ⟨e1,e2⟩
     ·have hz:=(fresh (M1:=M1) e2);simp only[List.mem_cons,not_or]at hz h5;have hlow:=(Low.cons seg ok low out).off O1 (by simp);refine .inr ⟨z,s,max (5+sl+wd) 24,[],(szL fs:Int),s,hd,z::s::fpl,M1,e1,p1,O1, ?_,h1.off O1 (by simp),h3.k8 O1.k80, ?_, ?_, ?_⟩
      ·exact .above S1 hlow (by simp only[List.mem_cons,not_or];exact hz.2)
      ·simp only[List.mem_cons,not_or];exact⟨hz.1.symm,h5⟩
      ·intro v hv;rcases List.mem_cons.1 hv with rfl|hv
       ·exact .inr e2
       ·exact .inl (List.mem_cons_of_mem _ hv)
      ·simp only[List.length_nil];omega
theorem RF.push(h:RF M x y p fp)(hp:Hq A m M){cl:Int}(hcl:Plain cl)(sl wd:Nat)(hn:sl+wd≤180):
 (∀seg,(placeF A m x (5+sl+wd)).2=some seg→W64 seg∧0≤nmF (placeF A m x (5+sl+wd)).1 m seg 1∧nmF (placeF A m x (5+sl+wd)).1 m seg 1≤1000)∧
 (((pushF A m x cl sl wd).2=false∧Hq (pushF A m x cl sl wd).1 m M)∨
   ((pushF A m x cl sl wd).2=true∧∃M' fp',Hq (pushF A m x cl sl wd).1 m M'∧RF M' x y ⟨Frm.fresh cl sl wd::p.fr,p.h⟩ fp'∧Off fp M M'∧Kp8 M M'∧∀z,z∈fp'→z∈fp∨M z=none)):=by
 have hx:=h.mem;have hdom:=h.dom;have hok:=h.ok;obtain⟨_,hpl⟩:=h.place hp sl wd hn;unfold pushF;rw[if_neg (by omega)];rcases hpl with⟨e1,e2⟩|⟨s,prev,cap,ws,b,seg0,hd,fq,M1,e1,p1,O1,R1,F1,H1,hxq,hq,hc⟩
 ·rw[e1];exact⟨fun seg hs=>(by cases hs),.inl ⟨rfl,e2⟩⟩
 ·have hs:=R1.seg;have hcp:=hs.cp p1;have hle:=hs.le;refine⟨fun seg h=> ?_,.inr ?_⟩
  ·rw[e1]at h;injection h with h
   subst h;rw[hs.used p1];exact⟨hs.w p1,by omega,by omega⟩
  ·rw[e1];obtain⟨M2,h1,h2,h3,h4⟩:=R1.push p1 F1 H1 hxq ⟨hok.1,hok.2⟩ hcl sl wd hc;refine⟨rfl,M2,x::fq,h1,h2, ?_,O1.k80.trans h4, ?_⟩
   ·intro z o hz ho;refine h3 z o ?_ (O1 z o (by simp) ho);simp only[List.mem_cons,List.not_mem_nil,or_false,not_or];refine⟨?_,fun hc=>hz (hc▸hx)⟩;rintro rfl;have:z∈fq:=R1.mem;rcases hq z this with h|h
    ·exact hz h
    ·rw[h]at ho;cases ho
   ·intro z hz;rcases List.mem_cons.1 hz with rfl|hz
    ·exact .inl hx
    ·exact hq z hz
end
section
open Go.ChangeShapes Go.WideShapes Go.RowKit
variable{w0 w w1 w':World}{c:Sk}{A A':Ar}{top:Int}{last:Value}
def hdF(A:Ar)(m:Nat)(h label:Int):Nat→Nat→Option Nat
 |0,_=>none
 |n+1,k=>if 2+2*(k:Int)+1<szF A m h then(if gtF A m h (2+2*(k:Int))=label then some (2+2*k+1)else hdF A m h label n (k+1))else none
def hlVal:Option Nat→Value
 |none=> .tuple #[.int .i64 0,.bool false]
 |some i=> .tuple #[.int .i64 (i:Int),.bool true]
set_option maxHeartbeats 1000000 in
theorem khandles_c(h:St w0 w c A top last)(hh label:Int)(hw:W64 hh)(_:W64 label)(fuel:Nat)(hfu:szF A c.m hh≤2*(fuel:Int)+3)(hf2:fuel≤1000):Calls Tryz.prog 89 #[.pointer (some ⟨c.kb,0,none⟩),.int .u64 hh,.int .u64 label] w fun e w'=>e=.returned (hlVal (hdF A c.m hh label fuel 0))∧St w0 w' c A top last:=by
 have k0:=h.k0;have CV:=Lib.hid (vheap_c h);have CZ:=Lib.hid (osize_s h hh hw);have HZ:Hid (szF A c.m hh≤2*(fuel:Int)+3):=Lib.hid hfu;obtain⟨R,hR⟩: ∃R,R=hdF A c.m hh label fuel 0:=⟨_,rfl⟩;rw[←hR];have HR:Hid (hdF A c.m hh label fuel 0=R):=Lib.hid hR.symm;have CG:Hid (∀wr,St w0 wr c A top last→∀k:Nat,k≤2000→_):=Lib.hid (fun wr h k hk=>zU h hh (2+2*(k:Int)) hw (I64.of (by omega)));have HS:Hid (∀n k,hdF A c.m hh label (n+1) k=if 2+2*(k:Int)+1<szF A c.m hh then(if gtF A c.m hh (2+2*(k:Int))=label then some (2+2*k+1)else hdF A c.m hh label n (k+1))else none):=Lib.hid (fun n k=>rfl);have szl:szF A c.m hh≤3000:=by omega
 obtain⟨sz,hsz⟩: ∃sz,sz=szF A c.m hh:=⟨_,rfl⟩;rw[←hsz]at CZ HZ HS szl;have sz0: -1≤sz:=by rw[hsz];exact(szF_b h.a.wd hw).1
 clear hR hsz hfu h hw;go_enter Tryz.func89,Tryz.ntmps89;go_wp2_with fail;refine CV.out.mono ?_;rintro e w' ⟨rfl,rfl⟩;go_wp2_with fail;refine CZ.out.mono ?_;rintro e w1 ⟨rfl,h1⟩;have h1:=Lib.hid h1;clear CV CZ k0;go_wp2_with fail
 go_loopg [9] fuel (fun j y wr=> ∃k:Nat,y=.int .i64 (2+2*(k:Int))∧Hid (hdF A c.m hh label j k=R∧j+k=fuel)∧Hid (St w0 wr c A top last))
 case atStart=>exact⟨0,rfl,Lib.hid ⟨HR.out,by omega⟩,h1⟩
 case round=>
  obtain⟨k,rfl,hE,hS⟩:=hrel;clear h1 HR;have hk:k≤1000:=by have:=hE.out.2;omega
  by_cases hlt:2+2*(k:Int)+1<sz
  ·obtain⟨j,hj⟩: ∃j,gk=j+1:=⟨gk-1,by have:=hE.out.2;have:=HZ.out;omega⟩;have E:=hE.out.1;rw[hj,HS.out,if_pos hlt]at E;have HJ:=Lib.hid hj;have HJ2:Hid (j+(k+1)=fuel):=Lib.hid (by have:=hE.out.2;omega);have CGk:=Lib.hid (CG.out _ hS.out k (by omega));clear hj CG hE;by_cases hl:gtF A c.m hh (2+2*(k:Int))=label
   ·have hlb:(gtF A c.m hh (2+2*(k:Int))==label)=true:=by simpa using hl
    rw[if_pos hl]at E;have E2:=Lib.hid E;generalize gtF A c.m hh (2+2*(k:Int))=gv at*;clear E hl;go_wp2_with fail;refine CGk.out.mono ?_;rintro e w2 ⟨rfl,h2⟩;go_wp2;go_ret2;exact⟨by rw[←E2.out];simp[hlVal],h2⟩
   ·have hlb:(gtF A c.m hh (2+2*(k:Int))==label)=false:=by simpa using hl
    rw[if_neg hl]at E;have E2:Hid (hdF A c.m hh label j (k+1)=R∧j+(k+1)=fuel):=Lib.hid ⟨E,HJ2.out⟩;generalize gtF A c.m hh (2+2*(k:Int))=gv at*;clear E hl;go_wp2_with fail;refine CGk.out.mono ?_;rintro e w2 ⟨rfl,h2⟩;have h2:=Lib.hid h2;go_wp2_with fail
    go_roundg j
    case measure=>have:=HJ.out;omega
    case rel=>exact⟨k+1,congrArg (Value.int .i64) (by omega),E2,h2⟩
  ·have E2:Hid (R=none):=Lib.hid (by
    have E:=hE.out.1;cases gk with
    |zero=>exact E.symm
    |succ j=>rw[HS.out,if_neg hlt]at E;exact E.symm)
   clear hE CG;go_wp2;go_ret2;exact⟨by rw[E2.out];rfl,hS.out⟩
def Sk.all(c:Sk):List Nat:=[c.kb,c.sb,c.rb,c.hb,c.b,c.wb,c.lb]
theorem St.all_lt(h:St w0 w c A top last): ∀x,x∈c.all→x<w.heap.size:=by
 intro x hx;unfold Sk.all at hx;simp only[List.mem_cons,List.not_mem_nil,or_false]at hx;rcases hx with rfl|rfl|rfl|rfl|rfl|rfl|rfl
 ·exact zF h.a.k
 ·exact zF h.a.s
 ·exact zF h.a.r
 ·exact zF h.a.h.p
 ·exact zF h.a.h.ar.hb
 ·exact zF h.a.h.ar.hw
 ·exact zF h.a.h.ar.hl
theorem St.other(h:St w0 w c A top last)(g:Nat)(hg:w0.heap.size≤g)(hn:g∉c.all)(hF:Fr [g] w w'):St w0 w' c A top last:=by
 have key: ∀x,x∈c.all→x∉ [g]:=fun x hx hm=>by
  simp only[List.mem_cons,List.not_mem_nil,or_false]at hm;subst hm;exact hn hx
 have a1:c.kb∈c.all:=by simp[Sk.all]
 have a2:c.sb∈c.all:=by simp[Sk.all]
 have a3:c.rb∈c.all:=by simp[Sk.all]
 have a4:c.hb∈c.all:=by simp[Sk.all]
 have a5:c.b∈c.all:=by simp[Sk.all]
 have a6:c.wb∈c.all:=by simp[Sk.all]
 have a7:c.lb∈c.all:=by simp[Sk.all]
 exact⟨⟨hF.at h.a.k (key _ a1),hF.at h.a.s (key _ a2),hF.at h.a.r (key _ a3),h.a.h.fr hF (key _ a4) (key _ a5) (key _ a6) (key _ a7),h.a.ok,h.a.wd,h.a.t,h.a.ap⟩,h.fr.trans hF (fun x hx=>by
  simp only[List.mem_cons,List.not_mem_nil,or_false]at hx;subst hx;exact .inr hg)⟩
theorem zm{x:Nat}(h:x∈c.own):x∈c.all:=by
 unfold Sk.own at h;unfold Sk.all;simp only[List.mem_cons,List.not_mem_nil,or_false]at h⊢;rcases h with h|h|h|h|h<;>simp[h]
def FnAt(w:World)(g:Nat)(f label up fld:Int)(ok:Bool):Prop:=blk w g=some (.cells #[.int .u64 f,.int .u64 label,.int .i64 up,.int .i64 fld,.bool ok] 94 (0,0))
def srF(A:Ar)(m:Nat)(label:Int):Nat→Int→Nat→Option (Option (Nat×Nat))
 |0,_,_=>none
 |n+1,f,up=>
  if f%8=1 then
   (if hasF A m f=true then
     (match hdF A m (gtF A m f 3) label 200 0 with
     |some i=>some (some (up,i))
     |none=>srF A m label n (gtF A m f 0) (up+1))
   else srF A m label n (gtF A m f 0) (up+1))
  else some none
def srOk(A:Ar)(m:Nat):Nat→Int→Bool
 |0,_=>true
 |n+1,f=>if f%8=1 then decide (szF A m (gtF A m f 3)≤400)&&srOk A m n (gtF A m f 0)else true
def SrDone(w0 w:World)(c:Sk)(A:Ar)(top:Int)(last:Value)(label:Int)(R:Option (Nat×Nat))(e:Ending)(w':World):Prop:=
 e=.returned (.pointer (some ⟨w.heap.size,0,none⟩))∧St w0 w' c A top last∧(match R with
  |some (u,i)=>FnAt w' w.heap.size top label u i true
  |none=> ∃up,FnAt w' w.heap.size top label up 0 false)
def SrM(R:Option (Nat×Nat))(up fld:Int)(ok:Bool):Prop:=match R with|some (u,i)=>up=(u:Int)∧fld=(i:Int)∧ok=true|none=>fld=0∧ok=false
theorem FnAt.c2{g:Nat}{f label up fld:Int}{ok:Bool}(h:FnAt w g f label up fld ok):w.cell? ⟨g,2,none⟩=some (.int .i64 up):=zA h rfl
theorem FnAt.c3{g:Nat}{f label up fld:Int}{ok:Bool}(h:FnAt w g f label up fld ok):w.cell? ⟨g,3,none⟩=some (.int .i64 fld):=zA h rfl
theorem FnAt.c4{g:Nat}{f label up fld:Int}{ok:Bool}(h:FnAt w g f label up fld ok):w.cell? ⟨g,4,none⟩=some (.bool ok):=zA h rfl
theorem FnAt.f{g:Nat}{f label up fld:Int}{ok:Bool}(h:FnAt w g f label up fld ok)(i:Nat):w.frozen? ⟨g,i,none⟩=false:=zE h
theorem FnAt.up'{g:Nat}{f label up fld:Int}{ok:Bool}(h:FnAt w g f label up fld ok)(z:Int):FnAt (w.setCell ⟨g,2,none⟩ (.int .i64 z)) g f label z fld ok:=by
 unfold FnAt at h⊢;rw[zD,if_pos rfl,h];rfl
theorem FnAt.two{g:Nat}{f label up fld:Int}{ok:Bool}(h:FnAt w g f label up fld ok)(z:Int)(b:Bool):FnAt ((w.setCell ⟨g,3,none⟩ (.int .i64 z)).setCell ⟨g,4,none⟩ (.bool b)) g f label up z b:=by
 unfold FnAt at h⊢;rw[zD,if_pos rfl,zD,if_pos rfl,h];rfl
set_option maxRecDepth 100000 in
set_option maxHeartbeats 2000000 in
theorem ksearch_c(h:St w0 w c A top last)(label:Int)(hlab:W64 label)(fuel:Nat)(R:Option (Nat×Nat))(hR:srF A c.m label fuel top 0=some R)(hok:srOk A c.m fuel top=true)(hfu:fuel≤1000000):
 Calls Tryz.prog 47 #[.pointer (some ⟨c.kb,0,none⟩),.int .u64 label] w (SrDone w0 w c A top last label R):=by
 have CT:Hid (∀w1,St w w1 c A top last→_):=Lib.hid (fun w1 h1=>zh h1);have ht:=Lib.hid h.tw;have hs0:=h.base;have H0:=Lib.hid h;have hga:Hid (w.heap.size∉c.all):=Lib.hid (fun hm=>by have:=h.all_lt _ hm;omega);have h1:Hid (St w (w.alloc (.cells #[.int .u64 top,.int .u64 label,.int .i64 0,.int .i64 0,.bool false] 94)) c A top last):=Lib.hid (hs0.alloc _);have b1:Hid (FnAt (w.alloc (.cells #[.int .u64 top,.int .u64 label,.int .i64 0,.int .i64 0,.bool false] 94)) w.heap.size top label ((0:Nat):Int) 0 false):=Lib.hid (by unfold FnAt;rw[zB,if_pos rfl];rfl);have HR:Hid (srF A c.m label fuel top 0=some R∧srOk A c.m fuel top=true):=Lib.hid ⟨hR,hok⟩
 have D:Hid (∀w2 up fld ok,St w w2 c A top last→FnAt w2 w.heap.size top label up fld ok→SrM R up fld ok→SrDone w0 w c A top last label R (.returned (.pointer (some ⟨w.heap.size,0,none⟩))) w2):=Lib.hid (fun w2 up fld ok hS hB hm=>by
  refine⟨rfl,H0.out.join hS, ?_⟩;unfold SrM at hm;cases R with
  |none=>obtain⟨rfl,rfl⟩:=hm;exact⟨up,hB⟩
  |some x=>obtain⟨u,i⟩:=x;obtain⟨rfl,rfl,rfl⟩:=hm;exact hB)
 have KP:Hid (∀wa wb up fld ok,St wa wb c A top last→FnAt wa w.heap.size top label up fld ok→FnAt wb w.heap.size top label up fld ok):=Lib.hid (fun wa wb up fld ok hS hB=>hS.fr.at hB (fun hm=>hga.out (zm hm)));clear h hR hok;obtain⟨gb,hgb⟩: ∃gb,gb=w.heap.size:=⟨_,rfl⟩;have HGB:=Lib.hid hgb;go_enter Tryz.func47,Tryz.ntmps47;go_wp2_with (go_at_call 46;refine(CT.out _ (by first|exact hs0|exact h1.out)).mono ?_;rintro e w' ⟨rfl,rfl⟩);rw[←hgb]at b1 D KP hga⊢;clear hgb CT hs0
 go_loopg [6] fuel (fun j s6 wr=> ∃(f:Int) (n:Nat),s6=.int .u64 f∧Hid (W64 f)∧Hid (srF A c.m label j f n=some R∧srOk A c.m j f=true∧n+j≤1000000)∧Hid (St w wr c A top last)∧Hid (FnAt wr gb top label (n:Int) 0 false))
 case atStart=>exact⟨top,0,rfl,ht,Lib.hid ⟨HR.out.1,HR.out.2,by omega⟩,h1,b1⟩
 case round=>
  obtain⟨f,n,rfl,hf,hE,hS,hB⟩:=hrel;clear HR h1 b1
  obtain⟨j,hj⟩: ∃j,gk=j+1:=by
   cases gk with
   |zero=>have:=hE.out.1;simp[srF]at this
   |succ j=>exact⟨j,rfl⟩
  have HJ:=Lib.hid hj;obtain⟨E,O,hn⟩:=hE.out;rw[hj]at E O;have hn1:n≤1000000:=by omega
  have hnj:Hid (n+1+j≤1000000):=Lib.hid (by omega);unfold srF at E;unfold srOk at O;have CK:=Lib.hid (zx f wr hf.out.1 hf.out.2);have G2:=Lib.hid (hS.out.gw f 0);have OT:Hid (∀wa wb,St w wa c A top last→Fr [gb] wa wb→St w wb c A top last):=Lib.hid (fun wa wb ha hF=>ha.other gb (by rw[HGB.out];exact Nat.le_refl _) hga.out hF);have BS:Hid (∀wa wb up fld ok,FnAt wa gb top label up fld ok→Fr c.own wa wb→FnAt wb gb top label up fld ok):=Lib.hid (fun wa wb up fld ok hb hF=>hF.at hb (fun hm=>hga.out (zm hm)));have CH:=Lib.hid (zP hS.out.base f hf.out);clear hj hE hn hga KP;by_cases hp:f%8=1
  ·have hpb:(f%8==1)=true:=by simpa using hp
   rw[if_pos hp]at E O;simp only[Bool.and_eq_true,decide_eq_true_eq]at O;cases hh:hasF A c.m f with
   |false=>
    rw[hh]at CH;rw[hh,if_neg Bool.false_ne_true]at E;have E2:Hid (srF A c.m label j (gtF A c.m f 0) (n+1)=some R∧srOk A c.m j (gtF A c.m f 0)=true∧n+1+j≤1000000):=Lib.hid ⟨E,O.2,hnj.out⟩;clear E O hp hh;go_wp2_with fail;refine CK.out.mono ?_;rintro e w' ⟨rfl,rfl⟩;go_wp2_with fail;refine CH.out.mono ?_;rintro e w2 ⟨rfl,h2⟩;have h2j:=Lib.hid (hS.out.join h2);have hB2:=Lib.hid (BS.out _ _ _ _ _ hB.out h2.fr);clear h2 CK CH hS hB;have x2:=hB2.out.c2;have xf:=hB2.out.f 2;have B3:=Lib.hid (hB2.out.up' ((n:Int)+1));have h3:=Lib.hid (OT.out _ _ h2j.out ((Fr.refl [gb] w2).setCell (b:=gb) (i:=2) (by simp) (.int .i64 ((n:Int)+1))));go_wp2_with fail;refine(zU h3.out.base f 0 hf.out (I64.of (by omega))).mono ?_;rintro e w4 ⟨rfl,h4⟩;have h4j:=Lib.hid (h3.out.join h4);have B4:Hid (FnAt w4 gb top label ((n+1:Nat):Int) 0 false):=Lib.hid (by have:=BS.out _ _ _ _ _ B3.out h4.fr;rwa[show((n+1:Nat):Int)=(n:Int)+1 by omega]);go_wp2_with fail
    go_roundg j
    case measure=>have:=HJ.out;omega
    case rel=>exact⟨_,n+1,rfl,G2,E2,h4j,B4⟩
   |true=>
    rw[hh]at CH;rw[hh,if_pos rfl]at E;have CHL:Hid (∀wa,St w wa c A top last→_):=Lib.hid (fun wa ha=>khandles_c ha.base (gtF A c.m f 3) label (ha.gw _ _) hlab 200 (by have:=O.1;omega) (by omega));cases hx:hdF A c.m (gtF A c.m f 3) label 200 0 with
    |some i=>
     rw[hx]at CHL E;simp only[hlVal]at CHL;have hm:Hid (SrM R (n:Int) (i:Int) true):=Lib.hid (by simp at E;rw[←E];exact⟨rfl,rfl,rfl⟩);clear E O hp hh hx;go_wp2_with fail;refine CK.out.mono ?_;rintro e w' ⟨rfl,rfl⟩;go_wp2_with fail;refine CH.out.mono ?_;rintro e w2 ⟨rfl,h2⟩;have h2j:=Lib.hid (hS.out.join h2);have hB2:=Lib.hid (BS.out _ _ _ _ _ hB.out h2.fr);clear h2 CK CH hS hB;go_wp2_with fail;refine(CHL.out _ h2j.out).mono ?_;rintro e w3 ⟨rfl,h3⟩;have h3j:=Lib.hid (h2j.out.join h3);have hB3:=Lib.hid (BS.out _ _ _ _ _ hB2.out h3.fr);have x3:=hB3.out.c3;have x4:=hB3.out.c4;have xf3:=hB3.out.f 3;have xf4:=hB3.out.f 4;have B4:=Lib.hid (hB3.out.two (i:Int) true);have h4:=Lib.hid (OT.out _ _ h3j.out (((Fr.refl [gb] w3).setCell (b:=gb) (i:=3) (by simp) (.int .i64 (i:Int))).setCell (b:=gb) (i:=4) (by simp) (.bool true)));have y4:=B4.out.c4;clear h3 h2j hB2;go_wp2;go_ret;exact D.out _ _ _ _ h4.out B4.out hm.out
    |none=>
     rw[hx]at CHL E;simp only[hlVal]at CHL;have E2:Hid (srF A c.m label j (gtF A c.m f 0) (n+1)=some R∧srOk A c.m j (gtF A c.m f 0)=true∧n+1+j≤1000000):=Lib.hid ⟨E,O.2,hnj.out⟩;clear E O hp hh hx;go_wp2_with fail;refine CK.out.mono ?_;rintro e w' ⟨rfl,rfl⟩;go_wp2_with fail;refine CH.out.mono ?_;rintro e w2 ⟨rfl,h2⟩;have h2j:=Lib.hid (hS.out.join h2);have hB2:=Lib.hid (BS.out _ _ _ _ _ hB.out h2.fr);clear h2 CK CH hS hB;go_wp2_with fail;refine(CHL.out _ h2j.out).mono ?_;rintro e w3 ⟨rfl,h3⟩;have h3j:=Lib.hid (h2j.out.join h3);have hB3:=Lib.hid (BS.out _ _ _ _ _ hB2.out h3.fr);have x3:=hB3.out.c3;have x4:=hB3.out.c4;have xf3:=hB3.out.f 3;have xf4:=hB3.out.f 4;have B5:=Lib.hid (hB3.out.two 0 false);have h5:=Lib.hid (OT.out _ _ h3j.out (((Fr.refl [gb] w3).setCell (b:=gb) (i:=3) (by simp) (.int .i64 0)).setCell (b:=gb) (i:=4) (by simp) (.bool false)));have y4:=B5.out.c4;have y2:=B5.out.c2;have yf:=B5.out.f 2;have B6:=Lib.hid (B5.out.up' ((n:Int)+1));have h6:=Lib.hid (OT.out _ _ h5.out ((Fr.refl [gb] _).setCell (b:=gb) (i:=2) (by simp) (.int .i64 ((n:Int)+1))));clear h3 h2j hB2;go_wp2_with fail;refine(zU h6.out.base f 0 hf.out (I64.of (by omega))).mono ?_;rintro e w4 ⟨rfl,h4⟩;have h4j:=Lib.hid (h6.out.join h4);have B4:Hid (FnAt w4 gb top label ((n+1:Nat):Int) 0 false):=Lib.hid (by have:=BS.out _ _ _ _ _ B6.out h4.fr;rwa[show((n+1:Nat):Int)=(n:Int)+1 by omega]);go_wp2_with fail
     go_roundg j
     case measure=>have:=HJ.out;omega
     case rel=>exact⟨_,n+1,rfl,G2,E2,h4j,B4⟩
  ·have hpb:(f%8==1)=false:=by simpa using hp
   rw[if_neg hp]at E;have hm:Hid (SrM R (n:Int) 0 false):=Lib.hid (by simp at E;rw[←E];exact⟨rfl,rfl⟩);clear E O hp;go_wp2_with fail;refine CK.out.mono ?_;rintro e w' ⟨rfl,rfl⟩;go_wp2;go_ret;exact D.out _ _ _ _ hS.out hB.out hm.out
end
end Go.Proofs.YtghkahcogphomaaGreat
