/- Fibers: a part of the walk. No condition. -/
import Derived.Test.YtghkahcogphomaaGreatQk25
set_option linter.all false
namespace Go.Proofs.YtghkahcogphomaaGreat
section
open Go.ChangeShapes Go.WideShapes Go.RowKit
variable{w0 w w1 w':World}{c:Sk}{X:List Nat}{k k':PK}{rs:List Int}{last:Value}
def LastOk(w:World)(c:Sk)(X:List Nat)(fs:List PF)(last:Value):Prop:=
 last=.pointer none∨∃(g:Nat) (f lab up fld:Int) (ok:Bool),last=.pointer (some ⟨g,0,none⟩)∧FnAt w g f lab up fld ok∧g∉c.all∧g∉X∧W64 f∧W64 lab∧SrM ((fndP lab fs 0).map fun r=>(r.1,2+2*r.2+1)) up fld ok
theorem LastOk.fr{S:List Nat}{fs:List PF}(h:LastOk w c X fs last)(hF:Fr S w w')(hS: ∀x,x∈S→x∈c.all∨x∈X):LastOk w' c X fs last:=by
 rcases h with h|⟨g,f,lab,up,fld,ok,h1,h2,h3,h4,h5⟩
 ·exact .inl h
 ·refine .inr ⟨g,f,lab,up,fld,ok,h1,hF.at h2 ?_,h3,h4,h5⟩;intro hm;rcases hS g hm with h|h
  ·exact h3 h
  ·exact h4 h
theorem fndP_h(lab:Int): ∀{l l':List PF},l.map PF.h=l'.map PF.h→∀up,fndP lab l up=fndP lab l' up:=by
 intro l
 induction l with
 |nil=>intro l' h up;cases l' with|nil=>rfl|cons=>simp at h
 |cons p l ih=>
  intro l' h up;cases l' with
  |nil=>simp at h
  |cons p' l'=>
   simp only[List.map_cons,List.cons.injEq]at h;unfold fndP;rw[h.1];cases p'.h with
   |none=>exact ih h.2 _
   |some H=>simp only;cases idxL lab H.ls 0 with
    |none=>exact ih h.2 _
    |some i=>rfl
theorem LastOk.hs{fs fs':List PF}(h:LastOk w c X fs last)(he:fs.map PF.h=fs'.map PF.h):LastOk w c X fs' last:=by
 rcases h with h|⟨g,f,lab,up,fld,ok,h1,h2,h3,h4,h5,h6,h7⟩
 ·exact .inl h
 ·exact .inr ⟨g,f,lab,up,fld,ok,h1,h2,h3,h4,h5,h6,by rw[←fndP_h lab he];exact h7⟩
structure Ks(w0 w:World)(c:Sk)(X:List Nat)(k:PK)(rs:List Int):Prop where
 ex: ∃A M top last,St w0 w c A top last∧Hq A c.m M∧Rep M top k rs∧LastOk w c X k.fs last
theorem Ks.frw(h:Ks w0 w c X k rs):Fr c.own w0 w:=by obtain⟨A,M,top,last,h,_⟩:=h;exact h.fr
theorem Ks.rsw(h:Ks w0 w c X k rs):(∀r,r∈rs→W64 r∧r%8=1)∧rs.length=k.tk.length:=by obtain⟨A,M,top,last,_,hp,h,_⟩:=h;exact h.rsw hp
theorem Ks.keep(h:Ks w0 w c X k rs)(hF:Fr [] w w'):Ks w0 w' c X k rs:=by
 obtain⟨A,M,top,last,h1,h2,h3,h4⟩:=h;exact⟨A,M,top,last,h1.keep hF,h2,h3,h4.fr hF (by simp)⟩
theorem Ks.base(h:Ks w0 w c X k rs):Ks w w c X k rs:=by
 obtain⟨A,M,top,last,h1,h2⟩:=h;exact⟨A,M,top,last,h1.base,h2⟩
theorem Ks.other{S:List Nat}(h:Ks w0 w c X k rs)(hF:Fr S w w')(hS: ∀x,x∈S→x∈X∧x∉c.all):Ks w' w' c X k rs:=by
 obtain⟨A,M,top,last,h1,h2,h3,h4⟩:=h;have nn: ∀x,x∈c.all→x∉S:=fun x hx hm=>(hS x hm).2 hx
 have a1:c.kb∈c.all:=by simp[Sk.all]
 have a2:c.sb∈c.all:=by simp[Sk.all]
 have a3:c.rb∈c.all:=by simp[Sk.all]
 have a4:c.hb∈c.all:=by simp[Sk.all]
 have a5:c.b∈c.all:=by simp[Sk.all]
 have a6:c.wb∈c.all:=by simp[Sk.all]
 have a7:c.lb∈c.all:=by simp[Sk.all]
 exact⟨A,M,top,last,⟨⟨hF.at h1.a.k (nn _ a1),hF.at h1.a.s (nn _ a2),hF.at h1.a.r (nn _ a3),h1.a.h.fr hF (nn _ a4) (nn _ a5) (nn _ a6) (nn _ a7),h1.a.ok,h1.a.wd,h1.a.t,h1.a.ap⟩,Fr.refl _ _⟩,h2,h3,h4.fr hF (fun x hx=> .inr (hS x hx).1)⟩
theorem Ks.blocks{X':List Nat}(h:Ks w0 w c X k rs)(hX: ∀x,x∈X'→x∈X∨w.heap.size≤x):Ks w0 w c X' k rs:=by
 obtain⟨A,M,top,last,h1,h2,h3,h4⟩:=h;refine⟨A,M,top,last,h1,h2,h3, ?_⟩;rcases h4 with h|⟨g,f,lab,up,fld,ok,e1,e2,e3,e4,e5⟩
 ·exact .inl h
 ·refine .inr ⟨g,f,lab,up,fld,ok,e1,e2,e3, ?_,e5⟩;intro hm;rcases hX g hm with h|h
  ·exact e4 h
  ·have:=zF e2;omega
theorem own_in(c:Sk): ∀x,x∈c.own→x∈c.all∨x∈X:=fun x hx=> .inl (zm hx)
def topM(F:PF→Option PF)(k:PK):Option PK:=
 match k.fs with
 |[]=>none
 |p::l=>(F p).map fun p'=>⟨p'::l,k.tk⟩
def pushP(cl sl wd:Int)(p:PF):Option PF:=if sl<0∨wd<0∨180<sl∨180-sl<wd then none else some ⟨Frm.fresh cl sl.toNat wd.toNat::p.fr,p.h⟩
def popP(p:PF):Option PF:=match p.fr with|[]=>none|_::r=>some ⟨r,p.h⟩
def setpcP(n:Int)(p:PF):Option PF:=match p.fr with|[]=>none|f::r=>some ⟨{ f with pc:=n }::r,p.h⟩
def zp(i v:Int)(p:PF):Option PF:=match p.fr with|[]=>none|f::r=>if i<0∨(f.slots.length:Int)≤i then none else some ⟨{ f with slots:=f.slots.set i.toNat v }::r,p.h⟩
def putP(v:Int)(p:PF):Option PF:=match p.fr with|[]=>none|f::r=>if f.room≤f.words.length then none else some ⟨{ f with words:=f.words++[v]}::r,p.h⟩
def takeP(p:PF):Option PF:=match p.fr with|[]=>none|f::r=>if f.words=[]then none else some ⟨{ f with words:=f.words.dropLast }::r,p.h⟩
def curP(k:PK):Option Frm:=match k.fs with|[]=>none|p::_=>p.fr.head?
def lastW(k:PK):Int:=match curP k with|none=>45|some f=>f.words.getLast?.getD 45
theorem topM_h{F:PF→Option PF}(hF: ∀p p',F p=some p'→p'.h=p.h)(h:topM F k=some k'):k.fs.map PF.h=k'.fs.map PF.h:=by
 unfold topM at h;cases hk:k.fs with
 |nil=>rw[hk]at h;cases h
 |cons p l=>
  rw[hk]at h;simp only at h;cases hp:F p with
  |none=>rw[hp]at h;cases h
  |some p'=>
   rw[hp]at h;simp only[Option.map_some,Option.some.injEq]at h;subst h;simp[hF p p' hp]
def Did(w0:World)(c:Sk)(X:List Nat)(k:PK)(rs:List Int)(o:Option PK)(ok:Bool)(w':World):Prop:=(ok=true∧∃k',o=some k'∧Ks w0 w' c X k' rs)∨(ok=false∧Ks w0 w' c X k rs)
theorem Ks.top{F:PF→Option PF}(h:Ks w0 w c X k rs)(hFh: ∀p p',F p=some p'→p'.h=p.h):
 ∃A M top last p l y fp,k=⟨p::l,k.tk⟩∧St w0 w c A top last∧Hq A c.m M∧RF M top y p fp∧
  (∀A' w',St w0 w' c A' top last→Hq A' c.m M→Fr c.own w w'→Ks w0 w' c X k rs)∧
  (∀A' M' p' fp' w',St w0 w' c A' top last→Hq A' c.m M'→RF M' top y p' fp'→Off fp M M'→Kp8 M M'→(∀z,z∈fp'→z∈fp∨M z=none)→F p=some p'→Fr c.own w w'→∃k',topM F k=some k'∧Ks w0 w' c X k' rs):=by
 obtain⟨A,M,top,last,h1,h2,h3,h4⟩:=h;obtain⟨fs,ts⟩:=k;cases fs with
 |nil=>exact absurd rfl h3.ne
 |cons p l=>
  obtain⟨y,fp,hf,hre⟩:=h3.focus;refine⟨A,M,top,last,p,l,y,fp,rfl,h1,h2,hf, ?_, ?_⟩
  ·intro A' w' hS hH hF;exact⟨A',M,top,last,hS,hH,h3,h4.fr hF (own_in c)⟩
  ·intro A' M' p' fp' w' hS hH hR hO hK hfp hFp hF;have e:topM F ⟨p::l,ts⟩=some ⟨p'::l,ts⟩:=by unfold topM;simp only;rw[hFp];rfl
   refine⟨_,e,A',M',top,last,hS,hH,hre M' p' fp' hR hO hK hfp, ?_⟩;exact(h4.hs (topM_h hFh e)).fr hF (own_in c)
theorem ks_push(h:Ks w0 w c X k rs)(cl sl wd:Int)(hcl:Plain cl):
 Calls Tryz.prog 17 #[.pointer (some ⟨c.kb,0,none⟩),.int .u64 cl,.int .i64 sl,.int .i64 wd] w fun e w'=> ∃ok,e=.returned (.bool ok)∧Did w0 c X k rs (topM (pushP cl sl wd) k) ok w':=by
 obtain⟨A,M,top,last,p,l,y,fp,ek,h1,h2,h3,h4,h5⟩:=h.top (F:=pushP cl sl wd) (by
  intro p p' hp;unfold pushP at hp;split at hp
  ·cases hp
  ·injection hp with hp;subst hp;rfl)
 by_cases hb:sl<0∨wd<0∨180<sl∨180-sl<wd
 ·refine(kpush_bad h1.base cl sl wd hb).mono ?_;rintro e w' ⟨rfl,hS⟩;exact⟨false,rfl,.inr ⟨rfl,h4 _ _ (h1.join hS) h2 hS.fr⟩⟩
 ·obtain⟨s,rfl⟩: ∃s:Nat,sl=s:=⟨sl.toNat,by omega⟩;obtain⟨v,rfl⟩: ∃v:Nat,wd=v:=⟨wd.toNat,by omega⟩;obtain⟨hB,hr⟩:=h3.push h2 hcl s v (by omega);have hU:=(h3.place h2 s v (by omega)).1;refine(kpush_c h1.base cl s v hcl.1 hb hU hB).mono ?_;rintro e w' ⟨rfl,hS⟩;refine⟨_,rfl, ?_⟩;rcases hr with⟨e1,e2⟩|⟨e1,M',fp',e2,e3,e4,e5,e6⟩
  ·rw[e1];exact .inr ⟨rfl,h4 _ _ (h1.join hS) e2 hS.fr⟩
  ·rw[e1];exact .inl ⟨rfl,h5 _ M' _ fp' _ (h1.join hS) e2 e3 e4 e5 e6 (by unfold pushP;rw[if_neg hb];simp) hS.fr⟩
theorem ks_pop(h:Ks w0 w c X k rs):
 Calls Tryz.prog 24 #[.pointer (some ⟨c.kb,0,none⟩)] w fun e w'=>e=.returned (.bool (topM popP k).isSome)∧Did w0 c X k rs (topM popP k) (topM popP k).isSome w':=by
 obtain⟨A,M,top,last,p,l,y,fp,ek,h1,h2,h3,h4,h5⟩:=h.top (F:=popP) (by
  intro p p' hp;unfold popP at hp;split at hp
  ·cases hp
  ·injection hp with hp;subst hp;rfl)
 refine(kpop_c h1.base (h3.frok h2)).mono ?_;rintro e w' ⟨rfl,hS⟩;obtain⟨fr,h0⟩:=p;cases fr with
 |nil=>
  have e0:topM popP k=none:=by rw[ek];rfl
  rw[h3.pop_none h2]at hS⊢;rw[e0];exact⟨rfl,.inr ⟨rfl,h4 _ _ (h1.join hS) h2 hS.fr⟩⟩
 |cons f r=>
  obtain⟨e1,M',fp',e2,e3,e4,e5,e6⟩:=h3.pop h2;rw[e1];obtain⟨k',q1,q2⟩:=h5 _ M' _ fp' _ (h1.join hS) e2 e3 e4 e5 (fun z hz=> .inl (e6 z hz)) rfl hS.fr;rw[q1];exact⟨rfl,.inl ⟨rfl,k',rfl,q2⟩⟩
theorem ks_setpc(h:Ks w0 w c X k rs)(n:Int)(n0: -1000000≤n)(n1:n≤1000000):
 Calls Tryz.prog 25 #[.pointer (some ⟨c.kb,0,none⟩),.int .i64 n] w fun e w'=>e=.returned (.tuple #[])∧Ks w0 w' c X ((topM (setpcP n) k).getD k) rs:=by
 obtain⟨A,M,top,last,p,l,y,fp,ek,h1,h2,h3,h4,h5⟩:=h.top (F:=setpcP n) (by
  intro p p' hp;unfold setpcP at hp;split at hp
  ·cases hp
  ·injection hp with hp;subst hp;rfl)
 refine(ksetpc_c h1.base (h3.frok h2) n n0 n1).mono ?_;rintro e w' ⟨rfl,hS⟩;refine⟨rfl, ?_⟩;obtain⟨fr,h0⟩:=p;cases fr with
 |nil=>
  have e0:topM (setpcP n) k=none:=by rw[ek];rfl
  have:setpcF A c.m top n=A:=by unfold setpcF;rw[(h3.empty h2).1];rfl
  rw[this]at hS;rw[e0];exact h4 _ _ (h1.join hS) h2 hS.fr
 |cons f r=>
  obtain⟨M',e2,e3,e4,e5⟩:=h3.setpc h2 n n0 n1;obtain⟨k',q1,q2⟩:=h5 _ M' _ fp _ (h1.join hS) e2 e3 e4 e5 (fun z hz=> .inl hz) rfl hS.fr;rw[q1];exact q2
theorem ks_put(h:Ks w0 w c X k rs)(v:Int)(hv:Plain v):
 Calls Tryz.prog 30 #[.pointer (some ⟨c.kb,0,none⟩),.int .u64 v] w fun e w'=>e=.returned (.bool (topM (putP v) k).isSome)∧Did w0 c X k rs (topM (putP v) k) (topM (putP v) k).isSome w':=by
 obtain⟨A,M,top,last,p,l,y,fp,ek,h1,h2,h3,h4,h5⟩:=h.top (F:=putP v) (by
  intro p p' hp;unfold putP at hp;split at hp
  ·cases hp
  ·split at hp
   ·cases hp
   ·injection hp with hp;subst hp;rfl)
 refine(kput_c h1.base (h3.frok h2) v hv.1).mono ?_;rintro e w' ⟨rfl,hS⟩;obtain⟨fr,h0⟩:=p;cases fr with
 |nil=>
  have e0:topM (putP v) k=none:=by rw[ek];rfl
  rw[h3.put_none h2]at hS⊢;rw[e0];exact⟨rfl,.inr ⟨rfl,h4 _ _ (h1.join hS) h2 hS.fr⟩⟩
 |cons f r=>
  by_cases hw:f.room≤f.words.length
  ·have e0:topM (putP v) k=none:=by rw[ek];unfold topM putP;simp only;rw[if_pos hw];rfl
   rw[h3.put_no h2 v hw]at hS⊢;rw[e0];exact⟨rfl,.inr ⟨rfl,h4 _ _ (h1.join hS) h2 hS.fr⟩⟩
  ·obtain⟨e1,M',e2,e3,e4,e5⟩:=h3.put h2 v hv (by omega);rw[e1];obtain⟨k',q1,q2⟩:=h5 _ M' _ fp _ (h1.join hS) e2 e3 e4 e5 (fun z hz=> .inl hz) (by unfold putP;simp only;rw[if_neg hw]) hS.fr;rw[q1];exact⟨rfl,.inl ⟨rfl,k',rfl,q2⟩⟩
theorem ks_take(h:Ks w0 w c X k rs):
 Calls Tryz.prog 32 #[.pointer (some ⟨c.kb,0,none⟩)] w fun e w'=>e=.returned (.int .u64 (lastW k))∧Ks w0 w' c X ((topM takeP k).getD k) rs:=by
 obtain⟨A,M,top,last,p,l,y,fp,ek,h1,h2,h3,h4,h5⟩:=h.top (F:=takeP) (by
  intro p p' hp;unfold takeP at hp;split at hp
  ·cases hp
  ·split at hp
   ·cases hp
   ·injection hp with hp;subst hp;rfl)
 refine(ktake_c h1.base (h3.frok h2)).mono ?_;rintro e w' ⟨rfl,hS⟩;obtain⟨fr,h0⟩:=p;cases fr with
 |nil=>
  have e0:topM takeP k=none:=by rw[ek];rfl
  have e1:lastW k=45:=by rw[ek];rfl
  rw[h3.take_none h2]at hS⊢;rw[e0,e1];exact⟨rfl,h4 _ _ (h1.join hS) h2 hS.fr⟩
 |cons f r=>
  by_cases hw:f.words=[]
  ·have e0:topM takeP k=none:=by rw[ek];unfold topM takeP;simp only;rw[if_pos hw];rfl
   have e1:lastW k=45:=by rw[ek];unfold lastW curP;simp[hw]
   rw[h3.take_no h2 hw]at hS⊢;rw[e0,e1];exact⟨rfl,h4 _ _ (h1.join hS) h2 hS.fr⟩
  ·have ef:f={{ f with words:=f.words.dropLast }with words:=f.words.dropLast++[f.words.getLast hw]}:=by rw[List.dropLast_concat_getLast]
   have e1:lastW k=f.words.getLast hw:=by rw[ek];unfold lastW curP;simp[List.getLast?_eq_some_getLast hw]
   rw[ef]at h3;obtain⟨e2,M',e3,e4,e5,e6⟩:=h3.take h2;rw[e2,e1];obtain⟨k',q1,q2⟩:=h5 _ M' _ fp _ (h1.join hS) e3 e4 e5 e6 (fun z hz=> .inl hz) (by unfold takeP;simp only;rw[if_neg hw]) hS.fr;rw[q1];exact⟨rfl,q2⟩
theorem Ks.see(h:Ks w0 w c X k rs): ∃A M top last p l y fp,k=⟨p::l,k.tk⟩∧St w0 w c A top last∧Hq A c.m M∧RF M top y p fp∧(∃ff,RC M 45 (p::l) top ff)∧∀w',St w w' c A top last→Ks w0 w' c X k rs:=by
 obtain⟨A,M,top,last,h1,h2,h3,h4⟩:=h;obtain⟨fs,ts⟩:=k;cases fs with
 |nil=>exact absurd rfl h3.ne
 |cons p l=>
  obtain⟨y,fp,hf,_⟩:=h3.focus;have h3':=h3;obtain⟨⟨f1,f2,hc,_⟩,_⟩:=h3;exact⟨A,M,top,last,p,l,y,fp,rfl,h1,h2,hf,⟨f1,hc⟩,fun w' hS=>⟨A,M,top,last,h1.join hS,h2,h3',h4.fr hS.fr (own_in c)⟩⟩
theorem ks_closure(h:Ks w0 w c X k rs):Calls Tryz.prog 56 #[.pointer (some ⟨c.kb,0,none⟩)] w fun e w'=>e=.returned (.int .u64 (((curP k).map Frm.cl).getD 45))∧Ks w0 w' c X k rs:=by
 obtain⟨A,M,top,last,p,l,y,fp,ek,h1,h2,h3,_,h4⟩:=h.see;refine(kclosure_c h1.base (h3.frok h2)).mono ?_;rintro e w' ⟨rfl,hS⟩;refine⟨?_,h4 _ hS⟩;rw[(h3.empty h2).1,ek];obtain⟨fr,h0⟩:=p;cases fr with
 |nil=>rfl
 |cons f r=>simp only[List.isEmpty_cons,Bool.false_eq_true,if_false];rw[(h3.cl h2).1];rfl
theorem ks_pc(h:Ks w0 w c X k rs):Calls Tryz.prog 57 #[.pointer (some ⟨c.kb,0,none⟩)] w fun e w'=>e=.returned (.int .i64 (((curP k).map Frm.pc).getD 0))∧Ks w0 w' c X k rs:=by
 obtain⟨A,M,top,last,p,l,y,fp,ek,h1,h2,h3,_,h4⟩:=h.see;refine(kpc_c h1.base (h3.frok h2)).mono ?_;rintro e w' ⟨rfl,hS⟩;refine⟨?_,h4 _ hS⟩;rw[(h3.empty h2).1,ek];obtain⟨fr,h0⟩:=p;cases fr with
 |nil=>rfl
 |cons f r=>simp only[List.isEmpty_cons,Bool.false_eq_true,if_false];rw[(h3.cl h2).2];rfl
theorem ks_words(h:Ks w0 w c X k rs):Calls Tryz.prog 58 #[.pointer (some ⟨c.kb,0,none⟩)] w fun e w'=>e=.returned (.int .i64 (((curP k).map fun f=>(f.words.length:Int)).getD 0))∧Ks w0 w' c X k rs:=by
 obtain⟨A,M,top,last,p,l,y,fp,ek,h1,h2,h3,_,h4⟩:=h.see;refine(kwords_c h1.base (h3.frok h2)).mono ?_;rintro e w' ⟨rfl,hS⟩;refine⟨?_,h4 _ hS⟩;rw[ek];obtain⟨fr,h0⟩:=p;cases fr with
 |nil=>rw[h3.words_none h2];rfl
 |cons f r=>rw[h3.words h2];rfl
theorem ks_slot(h:Ks w0 w c X k rs)(i:Int)(i0: -1000000≤i)(i1:i≤1000000):Calls Tryz.prog 59 #[.pointer (some ⟨c.kb,0,none⟩),.int .i64 i] w fun e w'=>e=.returned (.int .u64 (match curP k with|none=>45|some f=>if i<0∨(f.slots.length:Int)≤i then 45 else f.slots[i.toNat]?.getD 0))∧Ks w0 w' c X k rs:=by
 obtain⟨A,M,top,last,p,l,y,fp,ek,h1,h2,h3,_,h4⟩:=h.see;refine(kslot_c h1.base (h3.frok h2) i i0 i1).mono ?_;rintro e w' ⟨rfl,hS⟩;refine⟨?_,h4 _ hS⟩;rw[ek];obtain⟨fr,h0⟩:=p;cases fr with
 |nil=>
  have:slotF A c.m top i=none:=by unfold slotF;rw[(h3.empty h2).1];rfl
  rw[this];rfl
 |cons f r=>
  rcases h3.slot h2 i with⟨e1,e2⟩|⟨q,rfl,e1,e2,e3⟩
  ·rw[e1];unfold curP;simp only[List.head?_cons];rw[if_pos e2]
  ·rw[e2];unfold curP;simp only[List.head?_cons];rw[if_neg (by omega),e3,Int.toNat_natCast]
theorem ks_fibers(h:Ks w0 w c X k rs)(hm:c.m≤600):Calls Tryz.prog 10 #[.pointer (some ⟨c.kb,0,none⟩)] w fun e w'=>e=.returned (.int .i64 (k.fs.length:Int))∧Ks w0 w' c X k rs:=by
 obtain⟨A,M,top,last,p,l,y,fp,ek,h1,h2,h3,⟨ff,hc⟩,h4⟩:=h.see;have hm1:=hc.many h2;have hl:k.fs.length=(p::l).length:=by rw[ek]
 refine(kfibers_c h1.base ((p::l).length+1) (p::l).length (RC.ch h2 hc _ (by omega)) ?_).mono ?_
 ·have:c.m*256≤600*256:=Nat.mul_le_mul_right _ hm;omega
 ·rintro e w' ⟨rfl,hS⟩;rw[hl];exact⟨rfl,h4 _ hS⟩
end
section
open Go.ChangeShapes Go.WideShapes Go.RowKit
variable{w0 w w1 w':World}{c:Sk}{A A':Ar}{top:Int}{last:Value}
set_option maxHeartbeats 1000000 in
theorem kbelow_c(h:St w0 w c A top last)(seg ix:Int)(hs:W64 seg)(a0:2≤ix)(a1:ix≤2000)(b0: -1≤nmF A c.m seg (ix+2))(b1:nmF A c.m seg (ix+2)≤1000):
 Calls Tryz.prog 91 #[.pointer (some ⟨c.kb,0,none⟩),.int .u64 seg,.int .i64 ix] w fun e w'=>e=.returned (.tuple #[.int .u64 (if ix=2 then gtF A c.m seg 0 else seg),.int .i64 (2+nmF A c.m seg (ix+2)),.bool (nmF A c.m seg (ix+2) != -1)])∧St w0 w' c A top last:=by
 by_cases h2:ix=2
 ·subst h2;rw[if_pos rfl];have b0': -1≤nmF A c.m seg 4:=b0;have b1':nmF A c.m seg 4≤1000:=b1;go_enter Tryz.func91,Tryz.ntmps91;go_wp2_with (first|(go_at_call 66;refine(knum_c ‹_› _ _ (by first|assumption|exact St.gw ‹_› _ _|exact St.tw ‹_›|exact zG|exact zJ|exact zH _) (by first|exact I64.of (by omega)|assumption)).mono ?_;rintro e w' ⟨rfl,_⟩)|(go_at_call 52;refine(zU ‹_› _ _ (by first|assumption|exact St.gw ‹_› _ _|exact St.tw ‹_›|exact zG|exact zJ|exact zH _) (by first|exact I64.of (by omega)|assumption)).mono ?_;rintro e w' ⟨rfl,_⟩));go_ret3;exact⟨rfl,by assumption⟩
 ·rw[if_neg h2];go_enter Tryz.func91,Tryz.ntmps91;go_wp2_with (first|(go_at_call 66;refine(knum_c ‹_› _ _ (by first|assumption|exact St.gw ‹_› _ _|exact St.tw ‹_›|exact zG|exact zJ|exact zH _) (by first|exact I64.of (by omega)|assumption)).mono ?_;rintro e w' ⟨rfl,_⟩)|(go_at_call 52;refine(zU ‹_› _ _ (by first|assumption|exact St.gw ‹_› _ _|exact St.tw ‹_›|exact zG|exact zJ|exact zH _) (by first|exact I64.of (by omega)|assumption)).mono ?_;rintro e w' ⟨rfl,_⟩));go_ret3;exact⟨rfl,by assumption⟩
def frV(A:Ar)(m:Nat):Nat→Int→Int→Prop
 |0,_,b=>b= -1
 |n+1,s,b=>0≤b∧b≤1000∧W64 s∧ -1≤nmF A m s (2+b+2)∧nmF A m s (2+b+2)≤1000∧frV A m n (if b=0 then gtF A m s 0 else s) (nmF A m s (2+b+2))
set_option maxHeartbeats 1000000 in
theorem kframes_c(h:St w0 w c A top last)(n:Nat)(hv:frV A c.m n (gtF A c.m top 1) (nmF A c.m top 2))(hn:n≤100000000):Calls Tryz.prog 54 #[.pointer (some ⟨c.kb,0,none⟩)] w fun e w'=>e=.returned (.int .i64 (n:Int))∧St w0 w' c A top last:=by
 have CA:=Lib.hid (kat_c h);have HV:=Lib.hid hv;have HN:=Lib.hid hn;have ht:=h.tw;obtain⟨s0,hs0⟩: ∃s,s=gtF A c.m top 1:=⟨_,rfl⟩;obtain⟨b0,hb0⟩: ∃b,b=nmF A c.m top 2:=⟨_,rfl⟩
 have hbb: -1≤b0∧b0≤1000:=by
  rw[hb0];cases n with
  |zero=>have:nmF A c.m top 2= -1:=hv;omega
  |succ n=>exact⟨by have:=hv.1;omega,hv.2.1⟩
 rw[←hs0,←hb0]at CA HV;clear hv hn h hs0 hb0 ht;obtain⟨q0,q1⟩:=hbb;go_enter Tryz.func54,Tryz.ntmps54;go_wp2_with fail;refine CA.out.mono ?_;rintro e w1 ⟨rfl,h1⟩;have h1:=Lib.hid h1;go_wp2_with fail
 go_loopg [3,4,5,6] n (fun j s3 s4 s5 s6 wr=> ∃(s b:Int) (q:Nat),s3=.int .i64 (q:Int)∧s4=.int .u64 s∧s5=.int .i64 (2+b)∧s6=.bool (b != -1)∧ -1≤b∧b≤1000∧Hid (frV A c.m j s b)∧Hid (q+j=n)∧Hid (St w0 wr c A top last))
 case atStart=>exact⟨s0,b0,0,rfl,rfl,rfl,rfl,q0,q1,HV,Lib.hid (by omega),h1⟩
 case round=>
  obtain⟨s,b,q,rfl,rfl,rfl,rfl,hb0,hb1,hE,hq,hS⟩:=hrel;clear HV h1 CA q0 q1;cases gk with
  |zero=>
   have hb:b= -1:=hE.out;subst hb;have hqn:Hid (q=n):=Lib.hid (by have:=hq.out;omega);go_wp2;go_ret;exact⟨by rw[hqn.out];rfl,hS.out⟩
  |succ j=>
   obtain⟨e0,e1,e2,e3,e4,e5⟩:=hE.out;have hbn:(b != -1)=true:=by simp;omega
   have CB:=Lib.hid (kbelow_c hS.out s (2+b) e2 (by omega) (by omega) e3 e4);have HE:=Lib.hid e5
   have hif:(if 2+b=2 then gtF A c.m s 0 else s)=(if b=0 then gtF A c.m s 0 else s):=by
    by_cases hb:b=0
    ·rw[if_pos (by omega),if_pos hb]
    ·rw[if_neg (by omega),if_neg hb]
   rw[hif]at CB;have hqn:q≤100000000:=by have:=hq.out;have:=HN.out;omega
   have hq2:Hid (q+1+j=n):=Lib.hid (by have:=hq.out;omega);obtain⟨s',hs'⟩: ∃s',s'=(if b=0 then gtF A c.m s 0 else s):=⟨_,rfl⟩;obtain⟨b',hb'⟩: ∃b',b'=nmF A c.m s (2+b+2):=⟨_,rfl⟩;rw[←hs',←hb']at CB HE;rw[←hb']at e3 e4;clear hE hq e2 e5 hif hs' hb';rw[hbn];go_wp2_with fail;refine CB.out.mono ?_;rintro e w2 ⟨rfl,h2⟩;have h2:=Lib.hid h2;clear CB;go_wp2_with fail
   go_roundg j
   case measure=>omega
   case rel=>exact⟨s',b',q+1,by go_num,rfl,rfl,rfl,e3,e4,HE,hq2,h2⟩
set_option maxHeartbeats 1000000 in
theorem ksetslot_c(h:St w0 w c A top last)(F:FrOk A c.m top)(i v:Int)(hv:W64 v):Calls Tryz.prog 28 #[.pointer (some ⟨c.kb,0,none⟩),.int .i64 i,.int .u64 v] w fun e w'=>e=.returned (.bool (slotF A c.m top i).isSome)∧St w0 w' c (match slotF A c.m top i with|none=>A|some p=>stF A c.m (gtF A c.m top 1) p v) top last:=by
 have CH:=Lib.hid (kslotat_c h F i)
 have PB: ∀p,slotF A c.m top i=some p→I64 p:=by
  intro p hp;unfold slotF slotsF at hp;cases hn:noF A c.m top with
  |true=>rw[hn,if_pos rfl]at hp;cases hp
  |false=>
   have:=F.b0;have:=F.b1;have:=(F.s (noF_ne hn)).2;rw[hn,if_neg Bool.false_ne_true]at hp;split at hp
   ·cases hp
   ·simp at hp;unfold I64;omega
 have hg:=h.gw top 1;cases hs:slotF A c.m top i with
 |none=>
  rw[hs]at CH;simp only[slotVal]at CH;clear PB hs;go_enter Tryz.func28,Tryz.ntmps28;go_wp2_with fail;refine CH.out.mono ?_;rintro e w' ⟨rfl,_⟩;go_wp2_with fail;go_ret;exact⟨rfl,by assumption⟩
 |some p=>
  rw[hs]at CH;simp only[slotVal]at CH;have hp:=PB p hs;clear PB hs;go_enter Tryz.func28,Tryz.ntmps28;go_wp2_with fail;refine CH.out.mono ?_;rintro e w' ⟨rfl,_⟩;go_wp2_with (first|(go_at_call 67;refine(zv ‹_› _ _ _ (by first|assumption|exact St.gw ‹_› _ _|exact St.tw ‹_›|exact zG|exact zJ|exact zH _) (by first|exact I64.of (by omega)|assumption) (by first|assumption|exact St.gw ‹_› _ _|exact St.tw ‹_›|exact zG|exact zJ|exact zH _)).mono ?_;rintro e w' ⟨rfl,_⟩));go_ret;exact⟨rfl,by assumption⟩
end
end Go.Proofs.YtghkahcogphomaaGreat
