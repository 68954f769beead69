/- Fibers: a part of the walk. No condition. -/
import Derived.Test.YtghkahcogphomaaGreatQk05
import Derived.Deep.RegionHeld3
set_option linter.all false
namespace Go.Proofs.YtghkahcogphomaaGreat
section
variable{A A':Ar}{m:Nat}{G G':List Bool}{L:List Ob}
def HK(A:Ar)(m:Nat)(L:List Ob):Prop:= ∃G,HInv A m G L
def pw(a:Nat):Int:=(a:Int)*8+1
theorem mkW_pw(a:Nat)(h:a<1048577):mkW 1 a=pw a:=by unfold mkW pw;omega
theorem hAt_ob{o:Ob}(h:ObOk A m G o):hAt A m (pw o.a)=some ⟨o.a,o.kind,o.pins,o.fs.length⟩:=by
 have hb:=h.b;have he:=o.ee;have hk:=h.k;have hp:=h.p;have hn:=h.n;unfold hAt pw;have e1:((o.a:Int)*8+1)/8=o.a:=by omega
 rw[e1,Int.toNat_natCast,h.hd];unfold hdW;rw[if_pos ⟨by omega,by omega,by omega⟩]
 congr 2<;>omega
theorem pw_bd(ok:A.Ok m){o:Ob}(h:ObOk A m G o):0≤pw o.a∧pw o.a<18446744073709551616:=by
 have:=h.b;have:=o.ee;have:=ok.m2;unfold pw;omega
theorem wd_fillW(A:Ar)(p:Nat)(v:Int)(k:Nat)(hl:p+k≤A.words.length)(i:Nat):(fillW A p v k).wd i=if p≤i∧i<p+k then v else A.wd i:=by
 have len: ∀k,(fillW A p v k).words.length=A.words.length:=by
  intro k
  induction k with
  |zero=>rfl
  |succ k ih=>rw[fillW,len_set,ih]
 induction k with
 |zero=>rw[fillW,if_neg (by omega)]
 |succ k ih=>
  rw[fillW,wd_set,len,ih (by omega)];by_cases h1:i=p+k
  ·rw[if_pos ⟨h1,by omega⟩,if_pos (by omega)]
  ·rw[if_neg (by omega)];by_cases h2:p≤i∧i<p+k
   ·rw[if_pos h2,if_pos (by omega)]
   ·rw[if_neg h2,if_neg (by omega)]
theorem wd_copyW(A:Ar)(a k n:Nat)(hl:k+n≤A.words.length)(hd:Apart a (a+n) k (k+n))(i:Nat):(copyW A a k n).wd i=if k≤i∧i<k+n then A.wd (a+(i-k))else A.wd i:=by
 have len: ∀n,(copyW A a k n).words.length=A.words.length:=by
  intro n
  induction n with
  |zero=>rfl
  |succ n ih=>rw[copyW,len_set,ih]
 induction n generalizing i with
 |zero=>rw[copyW,if_neg (by omega)]
 |succ n ih=>
  have hd':Apart a (a+n) k (k+n):=fun q a b c d=>hd q a (by omega) c (by omega)
  rw[copyW,wd_set,len,ih (by omega) hd' i,ih (by omega) hd' (a+n)];rw[if_neg (show¬(k≤a+n∧a+n<k+n)from fun hc=>hd (a+n) (by omega) (by omega) hc.1 (by omega))];by_cases h1:i=k+n
  ·rw[if_pos ⟨h1,by omega⟩,if_pos (by omega)]
   congr 1;omega
  ·rw[if_neg (by omega)];by_cases h2:k≤i∧i<k+n
   ·rw[if_pos h2,if_pos (by omega)]
   ·rw[if_neg h2,if_neg (by omega)]
theorem AInv.fillW{K M:List Bool}(h:AInv A m G K M)(p:Nat)(v:Int)(k:Nat):AInv (fillW A p v k) m G K M:=by
 induction k with
 |zero=>exact h
 |succ k ih=>exact ih.set _ _
theorem AInv.copyW{K M:List Bool}(h:AInv A m G K M)(a p k:Nat):AInv (copyW A a p k) m G K M:=by
 induction k with
 |zero=>exact h
 |succ k ih=>exact ih.set _ _
theorem Ar.Wd.fillW(h:A.Wd)(p:Nat)(v:Int)(v0:0≤v)(v1:v<18446744073709551616)(k:Nat):(fillW A p v k).Wd:=by
 induction k with
 |zero=>exact h
 |succ k ih=>exact ih.set _ _ v0 v1
theorem Ar.Wd.copyW(h:A.Wd)(a p k:Nat):(copyW A a p k).Wd:=by
 induction k with
 |zero=>exact h
 |succ k ih=>exact ih.set _ _ (ih.at _).1 (ih.at _).2
theorem ones_mono(G:List Bool)(a b:Nat)(i:Nat)(h:G[i]?.getD false=true):(ones G a b)[i]?.getD false=true:=by
 rw[ones_get];cases hg:G[i]? with
 |none=>rw[hg]at h;simp at h
 |some x=>rw[hg]at h;simp at h;subst h;simp
theorem ones_in(G:List Bool)(a b:Nat)(i:Nat)(h0:a≤i)(h1:i<b)(hl:b≤G.length):(ones G a b)[i]?.getD false=true:=by
 rw[ones_get,List.getElem?_eq_getElem (by omega)];simp[h0,h1]
end
section
variable{A:Ar}{m p q:Nat}
theorem freeIn_all(l:List (Bool×Bool))(o n:Nat)(hl:o+n≤l.length)(h: ∀i,o≤i→i<o+n→tk l i=false):freeIn l o n=n:=by
 induction n with
 |zero=>exact freeIn_zero l o
 |succ n ih=>
  rw[freeIn_step l o n (by omega),ih (by omega) (fun i a b=>h i a (by omega)),h (o+n) (by omega) (by omega)]
  simp
theorem below_ge(l:List (Bool×Bool))(n q:Nat)(hq:q<n)(h:freeOf l q=16): ∃b,zV l n=some b∧q≤b:=by
 induction n with
 |zero=>omega
 |succ n ih=>
  unfold zV;by_cases hn:freeOf l n=16
  ·rw[if_pos hn];exact⟨n,rfl,by omega⟩
  ·rw[if_neg hn];exact ih (by rcases Nat.lt_or_ge q n with h1|h1;exact h1;exact absurd (by rwa[show q=n by omega]at h) hn)
structure Rm(A:Ar)(m p q:Nat):Prop where
 ok:A.Ok m
 nx:A.next≤16*p
 pq:p≤q
 qm:q≤m
 fr: ∀i,16*p≤i→i<16*q→tk A.lines i=false
def Room(A:Ar)(m r:Nat):Prop:= ∃p q,Rm A m p q∧r≤q-p
theorem Room.new(h1:1≤m)(h2:m≤4096):Room (Ar.new m) m m:=
 ⟨0,m,⟨Ar.new_ok m h1 h2,Nat.zero_le _,Nat.zero_le _,Nat.le_refl _,fun i _ hi=>by
   simp only[Ar.new,tk,clear];rw[List.getElem?_replicate,if_pos (by omega)];rfl⟩,by omega⟩
theorem Room.alloc{r:Nat}(h:Room A m (r+1))(n:Int)(n1:1≤n)(n2:n≤256): ∃k,(A.alloc m n).2=some k∧Room (A.alloc m n).1 m r:=by
 obtain⟨p,q,⟨ok,nx,pq,qm,fr⟩,hr⟩:=h;have ok':=Ar.Ok.alloc ok n;have hll:=ok.ll;unfold Ar.alloc at ok'⊢;rw[if_neg (by omega)]at ok'⊢;by_cases h16:16<n
 ·rw[if_pos h16]at ok'⊢;unfold Ar.greatA at ok'⊢;by_cases hf:n.toNat≤A.gt-A.gf
  ·rw[if_pos hf]at ok'⊢;exact⟨_,rfl,p,q,⟨ok',nx,pq,qm,fr⟩,by omega⟩
  ·rw[if_neg hf]at ok'⊢
   have hfree:freeOf A.lines (q-1)=16:=by
    unfold freeOf;exact freeIn_all _ _ _ (by omega) (fun i a b=>fr i (by omega) (by omega))
   obtain⟨b,hb,hqb⟩:=below_ge A.lines m (q-1) (by omega) hfree;rw[hb]at ok'⊢;refine⟨_,rfl,p,q-1,⟨ok',nx,by omega,by omega,fun i a c=> ?_⟩,by omega⟩;show tk (claimed A.lines _ _) i=false;rw[tk_claimed',if_neg (by omega)];exact fr i a (by omega)
 ·rw[if_neg h16]at ok'⊢;unfold Ar.smallA at ok'⊢;by_cases hf:n.toNat≤A.st-A.sf
  ·rw[if_pos hf]at ok'⊢;exact⟨_,rfl,p,q,⟨ok',nx,pq,qm,fr⟩,by omega⟩
  ·rw[if_neg hf]at ok'⊢;cases hx:find A.lines A.next 1 with
   |none=>
    have:=find_none1 A.lines A.next hx (16*p) nx (by omega);rw[fr (16*p) (Nat.le_refl _) (by omega)]at this;cases this
   |some ft=>
    obtain⟨f,t⟩:=ft;rw[hx]at ok';obtain⟨e1,e2,e3,e4,e5⟩:=find_spec A.lines A.next 1 (by omega) f t hx
    have e6:f≤16*p:=by
     rcases Nat.lt_or_ge (16*p) f with h|h
     ·have:=find_skip1 A.lines A.next f t hx (16*p) nx h;rw[fr (16*p) (Nat.le_refl _) (by omega)]at this;cases this
     ·exact h
    have e7:=(hole_le A.lines f (by omega)).2.2;refine⟨_,rfl,p+1,q,⟨ok', ?_,by omega,qm,fun i a c=> ?_⟩,by omega⟩
    ·show t≤16*(p+1)
     omega
    ·show tk (claimed A.lines _ _) i=false
     rw[tk_claimed',if_neg (by omega)];exact fr i (by omega) c
end
section
open Go.ChangeShapes Go.WideShapes Go.RowKit
def W64(x:Int):Prop:=0≤x∧x<18446744073709551616
def I64(x:Int):Prop:= -9223372036854775808≤x∧x≤9223372036854775807
theorem I64.of{x:Int}(h: -1000000≤x∧x≤1000000):I64 x:=by unfold I64;omega
def gtF(A:Ar)(m:Nat)(x i:Int):Int:=if(getF A m x i).2=0 then(getF A m x i).1 else 45
def nmF(A:Ar)(m:Nat)(x i:Int):Int:=wVal (gtF A m x i)
def stF(A:Ar)(m:Nat)(x i v:Int):Ar:=(setF A m x i v).1
structure Sk where
 kb:Nat
 sb:Nat
 rb:Nat
 hb:Nat
 b:Nat
 wb:Nat
 lb:Nat
 m:Nat
 rem:Bool
 nv:Value
 mv:Value
def Sk.own(c:Sk):List Nat:=[c.kb,c.rb,c.b,c.wb,c.lb]
structure SkAt(w:World)(c:Sk)(A:Ar)(top:Int)(last:Value):Prop where
 k:blk w c.kb=some (.cells #[.pointer (some ⟨c.sb,0,none⟩),.slice (some ⟨c.rb,0,none⟩) 1 1,.bool c.rem,last] 92 (0,0))
 s:blk w c.sb=some (.cells #[.pointer (some ⟨c.hb,0,none⟩),c.nv,c.mv] 107 (0,0))
 r:blk w c.rb=some (.cells #[.int .u64 top] 28 (0,0))
 h:HeAt w c.hb c.b c.wb c.lb A
 ok:A.Ok c.m
 wd:A.Wd
 t:W64 top
 ap:[c.kb,c.sb,c.rb,c.hb,c.b,c.wb,c.lb].Nodup
structure St(w0 w:World)(c:Sk)(A:Ar)(top:Int)(last:Value):Prop where
 a:SkAt w c A top last
 fr:Fr c.own w0 w
variable{w0 w w1 w':World}{c:Sk}{A A':Ar}{top:Int}{last:Value}
theorem SkAt.keep(h:SkAt w c A top last)(hF:Fr [] w w'):SkAt w' c A top last:=
 ⟨hF.at h.k (by simp),hF.at h.s (by simp),hF.at h.r (by simp),h.h.keep hF,h.ok,h.wd,h.t,h.ap⟩
theorem St.keep(h:St w0 w c A top last)(hF:Fr [] w w'):St w0 w' c A top last:=⟨h.a.keep hF,h.fr.trans hF (by simp)⟩
theorem St.alloc(h:St w0 w c A top last)(o:Obj):St w0 (w.alloc o) c A top last:=h.keep ((Fr.refl _ _).alloc _)
theorem St.drew(h:St w0 w c A top last):St w0 w.drew c A top last:=h.keep (Fr.refl _ _).drew
theorem St.base(h:St w0 w c A top last):St w w c A top last:=⟨h.a,Fr.refl _ _⟩
theorem St.join(h:St w0 w c A top last){top':Int}{last':Value}(h2:St w w1 c A' top' last'):St w0 w1 c A' top' last':=⟨h2.a,h.fr.same h2.fr⟩
theorem St.heap(h:St w0 w c A top last)(hF:Fr [c.b,c.wb,c.lb] w w')(he:HeAt w' c.hb c.b c.wb c.lb A')(ok:A'.Ok c.m)(wd:A'.Wd):St w0 w' c A' top last:=by
 have ap:=h.a.ap;simp only[List.nodup_cons,List.mem_cons,List.not_mem_nil,or_false,not_or]at ap;obtain⟨⟨a1,a2,a3,a4,a5,a6⟩,⟨b2,b3,b4,b5,b6⟩,⟨d3,d4,d5,d6⟩,_⟩:=ap;refine⟨⟨hF.at h.a.k ?_,hF.at h.a.s ?_,hF.at h.a.r ?_,he,ok,wd,h.a.t,h.a.ap⟩,h.fr.trans hF ?_⟩
 ·simp only[List.mem_cons,List.not_mem_nil,or_false,not_or];exact⟨a4,a5,a6⟩
 ·simp only[List.mem_cons,List.not_mem_nil,or_false,not_or];exact⟨b4,b5,b6⟩
 ·simp only[List.mem_cons,List.not_mem_nil,or_false,not_or];exact⟨d4,d5,d6⟩
 ·intro x hx;left;unfold Sk.own;simp only[List.mem_cons,List.not_mem_nil,or_false]at hx⊢;rcases hx with h|h|h<;>simp[h]
theorem St.k0(h:St w0 w c A top last):w.cell? ⟨c.kb,0,none⟩=some (.pointer (some ⟨c.sb,0,none⟩)):=zA h.a.k rfl
theorem St.k1(h:St w0 w c A top last):w.cell? ⟨c.kb,1,none⟩=some (.slice (some ⟨c.rb,0,none⟩) 1 1):=zA h.a.k rfl
theorem St.k2(h:St w0 w c A top last):w.cell? ⟨c.kb,2,none⟩=some (.bool c.rem):=zA h.a.k rfl
theorem St.k3(h:St w0 w c A top last):w.cell? ⟨c.kb,3,none⟩=some last:=zA h.a.k rfl
theorem St.kf(h:St w0 w c A top last)(i:Nat):w.frozen? ⟨c.kb,i,none⟩=false:=zE h.a.k
theorem St.s0(h:St w0 w c A top last):w.cell? ⟨c.sb,0,none⟩=some (.pointer (some ⟨c.hb,0,none⟩)):=zA h.a.s rfl
theorem St.r0(h:St w0 w c A top last):w.cell? ⟨c.rb,0,none⟩=some (.int .u64 top):=zA h.a.r rfl
theorem St.rf(h:St w0 w c A top last)(i:Nat):w.frozen? ⟨c.rb,i,none⟩=false:=zE h.a.r
theorem getFw(wd:A.Wd)(m:Nat)(x i:Int):W64 (getF A m x i).1:=by
 unfold getF;cases hAt A m x with
 |none=>exact(show W64 0 from⟨by omega,by omega⟩)
 |some o=>
  simp only;by_cases h:i<0∨(o.n:Int)≤i∨(m:Int)*256≤o.a+1+i
  ·rw[if_pos h];exact(show W64 0 from⟨by omega,by omega⟩)
  ·rw[if_neg h];exact wd.at _
theorem gtF_w(wd:A.Wd)(m:Nat)(x i:Int):W64 (gtF A m x i):=by
 unfold gtF;by_cases h:(getF A m x i).2=0
 ·rw[if_pos h];exact getFw wd m x i
 ·rw[if_neg h];exact(show W64 45 from⟨by omega,by omega⟩)
theorem St.gw(h:St w0 w c A top last)(x i:Int):W64 (gtF A c.m x i):=gtF_w h.a.wd _ _ _
theorem wVal_b{x:Int}(h:W64 x): -1152921504606846976≤wVal x∧wVal x<2305843009213693952:=by
 unfold W64 at h;unfold wVal;split<;>omega
theorem getF_e(A:Ar)(m:Nat)(x i:Int):(getF A m x i).2=0∨((getF A m x i).2=151):=by
 unfold getF;split
 ·simp
 ·split<;>simp
theorem vheap_c(h:St w0 w c A top last):Calls Tryz.prog 44 #[.pointer (some ⟨c.sb,0,none⟩)] w fun e w'=>e=.returned (.pointer (some ⟨c.hb,0,none⟩))∧w=w':=by
 have s0:=h.s0;clear h;go_enter Tryz.func44,Tryz.ntmps44;go_wp2;go_ret;exact⟨rfl,rfl⟩
theorem zK(w:World):Calls Tryz.prog 49 #[] w fun e w'=>e=.returned (.int .u64 45)∧w=w':=by
 go_enter Tryz.func49,Tryz.ntmps49;go_wp2_with (go_at_call 71;refine(single_c _ _).mono ?_;rintro e w' ⟨rfl,rfl⟩);go_ret;exact⟨rfl,rfl⟩
theorem zU(h:St w0 w c A top last)(x i:Int)(hx:W64 x)(hi:I64 i):Calls Tryz.prog 52 #[.pointer (some ⟨c.kb,0,none⟩),.int .u64 x,.int .i64 i] w fun e w'=>e=.returned (.int .u64 (gtF A c.m x i))∧St w0 w' c A top last:=by
 have k0:=h.k0;have CV:=Lib.hid (vheap_c h);have CG:=Lib.hid (oget_c w h.a.h h.a.ok h.a.wd x i hx.1 hx.2 hi);have H:=Lib.hid h;have GE:=getF_e A c.m x i;have G:Hid (gtF A c.m x i=if(getF A c.m x i).2=0 then(getF A c.m x i).1 else 45):=Lib.hid rfl;obtain⟨gv,hgv⟩: ∃y,y=gtF A c.m x i:=⟨_,rfl⟩;rw[←hgv]at G⊢;obtain⟨y,er,hye⟩: ∃y er,getF A c.m x i=(y,er):=⟨_,_,rfl⟩;rw[hye]at G CG GE;simp only at G GE;clear h hye hgv hx hi;rcases GE with rfl|rfl
 ·have G2:gv=y:=by rw[G.out];rfl
  subst G2;clear G;go_enter Tryz.func52,Tryz.ntmps52;go_wp2_with fail;refine CV.out.mono ?_;rintro e w' ⟨rfl,rfl⟩;go_wp2_with fail;refine CG.out.mono ?_;rintro e w1 ⟨rfl,F1⟩;go_wp2;go_ret;exact⟨rfl,H.out.keep F1⟩
 ·have G2:gv=45:=by rw[G.out];rfl
  subst G2;clear G;go_enter Tryz.func52,Tryz.ntmps52;go_wp2_with fail;refine CV.out.mono ?_;rintro e w' ⟨rfl,rfl⟩;go_wp2_with fail;refine CG.out.mono ?_;rintro e w1 ⟨rfl,F1⟩;go_wp2_with (go_at_call 49;refine(zK _).mono ?_;rintro e w' ⟨rfl,rfl⟩);go_ret;exact⟨rfl,H.out.keep F1⟩
end
section
open Go.ChangeShapes Go.WideShapes Go.RowKit
variable{w0 w w1 w':World}{c:Sk}{A A':Ar}{top:Int}{last:Value}
theorem W64.lo{x:Int}(h:W64 x):0≤x:=h.1
theorem W64.hi{x:Int}(h:W64 x):x<18446744073709551616:=h.2
theorem zJ:W64 0:=⟨by omega,by omega⟩
theorem zG:W64 45:=⟨by omega,by omega⟩
theorem St.tw(h:St w0 w c A top last):W64 top:=h.a.t
def smW(n:Int):Int:=mkW 0 n
theorem zH(n:Int):W64 (smW n):=mkW_bd 0 n (by omega) (by omega)
theorem smW_val{n:Int}(h0: -1152921504606846976≤n)(h1:n<1152921504606846976):wVal (smW n)=n:=by
 unfold smW mkW wVal;split<;>omega
theorem zb(n:Int)(w:World)(h0: -1000000≤n)(h1:n≤1000000):Calls Tryz.prog 62 #[.int .i64 n] w fun e w'=>e=.returned (.int .u64 (smW n))∧w=w':=by
 have CS:Hid (∀w,Calls Tryz.prog 95 #[.int .i64 n] w fun e w'=>e=.returned (.tuple #[.int .u64 (smW n),.bool true])∧w=w'):=Lib.hid (fun w=>by
  have q1: ¬n< -1152921504606846976:=by omega
  have q2: ¬(1152921504606846975:Int)<n:=by omega
  have CM:=Lib.hid (made_c 0 n w (by omega) (by omega));go_enter Tryz.func95,Tryz.ntmps95;go_wp2_with (go_at_call 102;refine CM.out.mono ?_;rintro e w' ⟨rfl,rfl⟩);go_ret2;exact⟨rfl,rfl⟩)
 generalize smW n=y at*;go_enter Tryz.func62,Tryz.ntmps62;go_wp2_with (go_at_call 95;refine(CS.out _).mono ?_;rintro e w' ⟨rfl,rfl⟩);go_ret;exact⟨rfl,rfl⟩
theorem knum_c(h:St w0 w c A top last)(x i:Int)(hx:W64 x)(hi:I64 i):Calls Tryz.prog 66 #[.pointer (some ⟨c.kb,0,none⟩),.int .u64 x,.int .i64 i] w fun e w'=>e=.returned (.int .i64 (nmF A c.m x i))∧St w0 w' c A top last:=by
 unfold nmF;go_enter Tryz.func66,Tryz.ntmps66;go_wp2_with (first|(go_at_call 52;refine(zU ‹_› _ _ (by first|assumption|exact St.gw ‹_› _ _|exact St.tw ‹_›|exact zG|exact zJ|exact zH _) (by first|exact I64.of (by omega)|assumption)).mono ?_;rintro e w' ⟨rfl,_⟩)|(go_at_call 93;refine(value_c _ _ (W64.lo (by first|assumption|exact St.gw ‹_› _ _|exact St.tw ‹_›|exact zG|exact zJ|exact zH _)) (W64.hi (by first|assumption|exact St.gw ‹_› _ _|exact St.tw ‹_›|exact zG|exact zJ|exact zH _))).mono ?_;rintro e w' ⟨rfl,rfl⟩));go_ret;exact⟨rfl,by assumption⟩
theorem wd_setF(wd:A.Wd)(m:Nat)(x i:Int){v:Int}(hv:W64 v):(setF A m x i v).1.Wd:=by
 unfold setF;cases hAt A m x with
 |none=>exact wd
 |some o=>
  simp only;by_cases h:i<0∨(o.n:Int)≤i∨(m:Int)*256≤o.a+1+i
  ·rw[if_pos h];exact wd
  ·rw[if_neg h];exact wd.set _ _ hv.1 hv.2
theorem oset_s(h:St w0 w c A top last)(x i v:Int)(hx:W64 x)(hi:I64 i)(hv:W64 v):Calls Tryz.prog 98 #[.pointer (some ⟨c.hb,0,none⟩),.int .u64 x,.int .i64 i,.int .u64 v] w fun e w'=>(∃z,e=.returned (.int .i64 z))∧St w0 w' c (stF A c.m x i v) top last:=by
 refine(oset_c w h.a.h h.a.ok h.a.wd x i v hx.1 hx.2 hi).mono ?_;rintro e w' ⟨rfl,hH,hF⟩;exact⟨⟨_,rfl⟩,h.heap hF hH (setF_ok h.a.ok x i v) (wd_setF h.a.wd c.m x i hv)⟩
theorem zv(h:St w0 w c A top last)(x i v:Int)(hx:W64 x)(hi:I64 i)(hv:W64 v):Calls Tryz.prog 67 #[.pointer (some ⟨c.kb,0,none⟩),.int .u64 x,.int .i64 i,.int .u64 v] w fun e w'=>e=.returned (.tuple #[])∧St w0 w' c (stF A c.m x i v) top last:=by
 have k0:=h.k0;go_enter Tryz.func67,Tryz.ntmps67;go_wp2_with (first|(go_at_call 44;refine(vheap_c ‹_›).mono ?_;rintro e w' ⟨rfl,rfl⟩)|(go_at_call 98;refine(oset_s ‹_› _ _ _ hx hi hv).mono ?_;rintro e w' ⟨⟨z,rfl⟩,_⟩))
 go_end0
 exact⟨rfl,by assumption⟩
theorem wd_fill(wd:A.Wd)(p k:Nat){v:Int}(hv:W64 v):(fillW A p v k).Wd:=by
 induction k with
 |zero=>exact wd
 |succ k ih=>exact ih.set _ _ hv.1 hv.2
theorem wd_alloc(wd:A.Wd)(m:Nat)(n:Int):(A.alloc m n).1.Wd:=fun x hx=>wd x (by rwa[alloc_words]at hx)
theorem makeF_wd(wd:A.Wd)(m:Nat)(kind n:Int):(makeF A m kind n).1.Wd∧∀x,(makeF A m kind n).2=some x→W64 x:=by
 unfold makeF;by_cases h:kind<0∨32≤kind∨n<0∨240<n
 ·rw[if_pos h];exact⟨wd,fun x hx=>by cases hx⟩
 ·rw[if_neg h];cases (A.alloc m (n+1)).2 with
  |none=>exact⟨wd_alloc wd _ _,fun x hx=>by cases hx⟩
  |some k=>
   refine⟨wd_fill ((wd_alloc wd _ _).set _ _ ?_ ?_) _ _ ?_,fun x hx=> ?_⟩
   ·unfold hdW;omega
   ·unfold hdW;omega
   ·unfold ZD;split
    ·exact zJ
    ·exact zG
   ·have:x=mkW 1 k:=by simpa using hx.symm
    rw[this];exact mkW_bd 1 k (by omega) (by omega)
theorem omake_s(h:St w0 w c A top last)(kind n:Int):Calls Tryz.prog 116 #[.pointer (some ⟨c.hb,0,none⟩),.int .i64 kind,.int .i64 n] w fun e w'=>e=.returned (zM (makeF A c.m kind n).2)∧St w0 w' c (makeF A c.m kind n).1 top last:=by
 refine(omake_c w h.a.h h.a.ok kind n).mono ?_;rintro e w' ⟨rfl,hH,hF⟩;exact⟨rfl,h.heap hF hH (makeF_ok h.a.ok kind n) (makeF_wd h.a.wd _ _ _).1⟩
def szF(A:Ar)(m:Nat)(x:Int):Int:=((hAt A m x).map fun h=>(h.n:Int)).getD (-1)
def kdF(A:Ar)(m:Nat)(x:Int):Int:=((hAt A m x).map fun h=>(h.kind:Int)).getD (-1)
theorem szF_b(wd:A.Wd){m:Nat}{x:Int}(hx:W64 x): -1≤szF A m x∧szF A m x<9007199254740992:=by
 unfold szF;cases ho:hAt A m x with
 |none=>simp
 |some o=>
  have:=(hAt_bd wd hx.1 ho).2.2.2.1
  simp
  omega
theorem osize_s(h:St w0 w c A top last)(x:Int)(hx:W64 x):Calls Tryz.prog 104 #[.pointer (some ⟨c.hb,0,none⟩),.int .u64 x] w fun e w'=>e=.returned (.int .i64 (szF A c.m x))∧St w0 w' c A top last:=
 (osize_c w h.a.h h.a.ok h.a.wd x hx.1 hx.2).mono fun _ _ k=>⟨k.1,h.keep k.2⟩
theorem okind_s(h:St w0 w c A top last)(x:Int)(hx:W64 x):Calls Tryz.prog 103 #[.pointer (some ⟨c.hb,0,none⟩),.int .u64 x] w fun e w'=>e=.returned (.int .i64 (kdF A c.m x))∧St w0 w' c A top last:=
 (okind_c w h.a.h h.a.ok h.a.wd x hx.1 hx.2).mono fun _ _ k=>⟨k.1,h.keep k.2⟩
theorem zh(h:St w0 w c A top last):Calls Tryz.prog 46 #[.pointer (some ⟨c.kb,0,none⟩)] w fun e w'=>e=.returned (.int .u64 top)∧w=w':=by
 have k1:=h.k1;have r0:=h.r0;clear h;go_enter Tryz.func46,Tryz.ntmps46;go_wp2;go_ret;exact⟨rfl,rfl⟩
theorem kturn_c(h:St w0 w c A top last)(f:Int)(hf:W64 f):Calls Tryz.prog 65 #[.pointer (some ⟨c.kb,0,none⟩),.int .u64 f] w fun e w'=>e=.returned (.tuple #[])∧St w0 w' c A f (.pointer none):=by
 have k1:=h.k1;have r0:=h.r0;have rf:=h.rf 0;have kf:=h.kf 3;have k3:=h.k3;have ap:=h.a.ap;simp only[List.nodup_cons,List.mem_cons,List.not_mem_nil,or_false,not_or]at ap;obtain⟨⟨a1,a2,a3,a4,a5,a6⟩,⟨b2,b3,b4,b5,b6⟩,⟨d3,d4,d5,d6⟩,⟨e4,e5,e6⟩,_⟩:=ap
 have D:Hid (St w0 ((w.setCell ⟨c.rb,0,none⟩ (.int .u64 f)).setCell ⟨c.kb,3,none⟩ (.pointer none)) c A f (.pointer none)):=Lib.hid (by
  have hF:Fr [c.kb,c.rb] w ((w.setCell ⟨c.rb,0,none⟩ (.int .u64 f)).setCell ⟨c.kb,3,none⟩ (.pointer none)):=((Fr.refl _ _).setCell (by simp) _).setCell (by simp) _
  have key: ∀x,¬x=c.kb→¬x=c.rb→x∉ [c.kb,c.rb]:=fun x h1 h2 hm=>by
   simp only[List.mem_cons,List.not_mem_nil,or_false]at hm;rcases hm with h|h
   ·exact h1 h
   ·exact h2 h
  have n1:=key c.sb (fun h=>a1 h.symm) b2;have n2:=key c.hb (fun h=>a3 h.symm) (fun h=>d3 h.symm);have n3:=key c.b (fun h=>a4 h.symm) (fun h=>d4 h.symm);have n4:=key c.wb (fun h=>a5 h.symm) (fun h=>d5 h.symm);have n5:=key c.lb (fun h=>a6 h.symm) (fun h=>d6 h.symm);refine⟨⟨?_,hF.at h.a.s n1, ?_,h.a.h.fr hF n2 n3 n4 n5,h.a.ok,h.a.wd,hf,h.a.ap⟩,h.fr.trans hF (fun x hx=> .inl ?_)⟩
  ·rw[zD,if_pos rfl,zD,if_neg a2,h.a.k];rfl
  ·rw[zD,if_neg (fun h=>a2 h.symm),zD,if_pos rfl,h.a.r];rfl
  ·unfold Sk.own;simp only[List.mem_cons,List.not_mem_nil,or_false]at hx⊢;rcases hx with h|h<;>simp[h])
 have l3: ∃v,w.cell? ⟨c.kb,3,none⟩=some v:=⟨_,k3⟩;clear h a1 a3 a4 a5 a6 b2 b3 b4 b5 b6 d3 d4 d5 d6 e4 e5 e6;go_enter Tryz.func65,Tryz.ntmps65;go_wp2
 go_end0
 exact⟨rfl,D.out⟩
def setN(A:Ar)(m:Nat)(x:Int)(ws:List Int):Nat→Ar
 |0=>A
 |k+1=>stF (setN A m x ws k) m x k (ws[k]?.getD 0)
def objF(A:Ar)(m:Nat)(kind:Int)(ws:List Int):Ar×Option Int:=
 match(makeF A m kind ws.length).2 with
 |none=>((makeF A m kind ws.length).1,none)
 |some x=>(setN (makeF A m kind ws.length).1 m x ws ws.length,some x)
def FdAt(w:World)(c:Sk)(a:Option Addr)(ws:List Int):Prop:=ws=[]∨∃b o,a=some ⟨b,o,none⟩∧b<w.heap.size∧b∉c.own∧∀i,i<ws.length→w.cell? ⟨b,o+i,none⟩=some (.int .u64 (ws[i]?.getD 0))
theorem FdAt.keep{a:Option Addr}{ws:List Int}(h:FdAt w c a ws)(hF:Fr c.own w w'):FdAt w' c a ws:=by
 rcases h with h|⟨b,o,h1,h2,h3,h4⟩
 ·exact .inl h
 ·exact .inr ⟨b,o,h1,Nat.lt_of_lt_of_le h2 hF.size,h3,fun i hi=>by
   rw[←h4 i hi];exact World.cell?_of_block (w:=w) (hF.block b h2 h3)⟩
theorem w64_nth{ws:List Int}(h: ∀x,x∈ws→W64 x)(k:Nat):W64 (ws[k]?.getD 0):=by
 cases hx:ws[k]? with
 |none=>exact zJ
 |some x=>exact h x (List.mem_of_getElem? hx)
theorem vraw_c(h:St w0 w c A top last)(kind:Int)(ws:List Int)(hws: ∀x,x∈ws→W64 x)(a:Option Addr)(n cap:Nat)(hf:FdAt w c a ws)(hn:ws.length=n)(hns:n≤1000):
 Calls Tryz.prog 97 #[.pointer (some ⟨c.sb,0,none⟩),.int .i64 kind,.slice a n cap] w fun e w'=>e=.returned (zM (objF A c.m kind ws).2)∧St w0 w' c (objF A c.m kind ws).1 top last:=by
 have s0:=h.s0;have CM:=Lib.hid (omake_s h.base kind (n:Int));have WX:=Lib.hid (makeF_wd h.a.wd c.m kind (n:Int)).2;have H:=Lib.hid h;have HF:=Lib.hid hf;have HN:=Lib.hid hn;have HW:=Lib.hid hws;have OB:Hid (objF A c.m kind ws=match(makeF A c.m kind n).2 with|none=>((makeF A c.m kind n).1,none)|some x=>(setN (makeF A c.m kind n).1 c.m x ws n,some x)):=Lib.hid (by unfold objF;rw[hn]);clear h hf hn hws;cases ho:(makeF A c.m kind n).2 with
 |none=>
  rw[ho]at CM OB;rw[OB.out];clear ho OB WX;go_enter Tryz.func97,Tryz.ntmps97;go_wp2_with fail;refine CM.out.mono ?_;rintro e w1 ⟨rfl,h1⟩;simp only[zM];go_wp2;go_ret2;exact⟨rfl,H.out.join h1⟩
 |some x=>
  rw[ho]at CM OB;rw[OB.out];have hx:=Lib.hid (WX.out x ho);clear ho OB WX;generalize (makeF A c.m kind (n:Int)).1=A1 at*;go_enter Tryz.func97,Tryz.ntmps97;go_wp2_with fail;refine CM.out.mono ?_;rintro e w1 ⟨rfl,h1⟩;have h1:Hid (St w w1 c (setN A1 c.m x ws 0) top last):=Lib.hid h1;simp only[zM];clear CM;go_wp2_with fail;go_loopw [27] (fun y wr=> ∃k:Nat,k≤n∧y=.int .i64 (k:Int)∧Hid (St w wr c (setN A1 c.m x ws k) top last)) (fun y _=>n-(intOf y).toNat)
  case atStart=>exact⟨0,Nat.zero_le _,rfl,h1⟩
  case round=>
   obtain⟨k,hk,rfl,hS⟩:=hrel;clear h1;by_cases hlt:k<n
   ·have hr:=HF.out.keep hS.out.fr;rcases hr with hr|⟨b,o,rfl,_,_,hb⟩
    ·have:=HN.out;rw[hr]at this;simp at this;omega
    have d0:=hb k (by rw[HN.out];exact hlt);have s1:=hS.out.s0;have CS:=Lib.hid (oset_s hS.out x (k:Int) (ws[k]?.getD 0) hx.out (I64.of (by omega)) (w64_nth HW.out k));have FIN:Hid (∀w2,St w w2 c (stF (setN A1 c.m x ws k) c.m x (k:Int) (ws[k]?.getD 0)) top last→St w w2 c (setN A1 c.m x ws (k+1)) top last):=Lib.hid (fun w2 h=>h);obtain⟨y,hy⟩: ∃y,y=ws[k]?.getD 0:=⟨_,rfl⟩;rw[←hy]at d0 CS FIN;clear hy hb;go_wp2_with fail;refine CS.out.mono ?_;rintro e w2 ⟨⟨z,rfl⟩,h2⟩;have h2:=Lib.hid h2;go_wp2;go_roundw
    case rel=>exact⟨k+1,by omega,by go_num,Lib.hid (FIN.out _ h2.out)⟩
    case measure=>simp[intOf];omega
   ·have hkn:k=n:=by omega
    subst hkn;go_wp2;go_ret2;exact⟨rfl,H.out.join hS.out⟩
theorem vobject_c(h:St w0 w c A top last)(kind:Int)(hk:kind<16)(ws:List Int)(hws: ∀x,x∈ws→W64 x)(a:Option Addr)(n cap:Nat)(hf:FdAt w c a ws)(hn:ws.length=n)(hns:n≤1000):
 Calls Tryz.prog 64 #[.pointer (some ⟨c.sb,0,none⟩),.int .i64 kind,.slice a n cap] w fun e w'=>e=.returned (zM (objF A c.m kind ws).2)∧St w0 w' c (objF A c.m kind ws).1 top last:=by
 have CR:=Lib.hid (vraw_c h kind ws hws a n cap hf hn hns)
 have RW:Hid (∀w,Calls Tryz.prog 96 #[.int .i64 kind] w fun e w'=>e=.returned (.bool false)∧w=w'):=Lib.hid (fun w=>by
  have:=raw_c w kind
  rwa[decide_eq_false (by omega)]at this)
 clear h hws hf hn;obtain⟨r,hr⟩: ∃r,r=objF A c.m kind ws:=⟨_,rfl⟩;rw[←hr]at CR⊢;obtain⟨A1,o⟩:=r;clear hr;cases o with
 |none=>
  go_enter Tryz.func64,Tryz.ntmps64;go_wp2_with fail;refine(RW.out _).mono ?_;rintro e w' ⟨rfl,rfl⟩;go_wp2_with fail;refine CR.out.mono ?_;rintro e w1 ⟨rfl,h1⟩;simp only[zM];go_wp2;go_ret2;exact⟨rfl,h1⟩
 |some x=>
  go_enter Tryz.func64,Tryz.ntmps64;go_wp2_with fail;refine(RW.out _).mono ?_;rintro e w' ⟨rfl,rfl⟩;go_wp2_with fail;refine CR.out.mono ?_;rintro e w1 ⟨rfl,h1⟩;simp only[zM];go_wp2;go_ret2;exact⟨rfl,h1⟩
theorem wordVal_tuple(o:Option Int): ∃x b,zM o=.tuple #[.int .u64 x,.bool b]:=by
 cases o with
 |none=>exact⟨_,_,rfl⟩
 |some x=>exact⟨_,_,rfl⟩
def fibF(A:Ar)(m:Nat)(below handler:Int):Ar×Option Int:=objF A m 7 [below,45,smW (-1),handler]
theorem sk_lt(h:St w0 w c A top last){x:Nat}(hx:x∈c.own):x<w.heap.size:=by
 unfold Sk.own at hx;simp only[List.mem_cons,List.not_mem_nil,or_false]at hx;rcases hx with rfl|rfl|rfl|rfl|rfl
 ·exact zF h.a.k
 ·exact zF h.a.r
 ·exact zF h.a.h.ar.hb
 ·exact zF h.a.h.ar.hw
 ·exact zF h.a.h.ar.hl
theorem fd_new(h:St w0 w c A top last)(ws:List Int)(t:TypeId)(w2:World)(h2:blk w2 w.heap.size=some (.cells (ws.map (Value.int .u64)).toArray t (0,0))):FdAt w2 c (some ⟨w.heap.size,0,none⟩) ws:=
 .inr ⟨w.heap.size,0,rfl,zF h2,fun hx=>by have:=sk_lt h hx;omega,fun i hi=>by
  rw[Nat.zero_add];exact zA h2 (by simp[hi])⟩
set_option maxRecDepth 100000 in
theorem kfiber_c(h:St w0 w c A top last)(below handler:Int)(hb:W64 below)(hh:W64 handler):Calls Tryz.prog 61 #[.pointer (some ⟨c.kb,0,none⟩),.int .u64 below,.int .u64 handler] w fun e w'=>e=.returned (zM (fibF A c.m below handler).2)∧St w0 w' c (fibF A c.m below handler).1 top last:=by
 have k0:=h.k0
 have CO:Hid (∀w2,w2=(w.alloc (.cells #[.int .u64 below,.int .u64 45,.int .u64 (smW (-1)),.int .u64 handler] 28)).drew→Calls Tryz.prog 64 #[.pointer (some ⟨c.sb,0,none⟩),.int .i64 7,.slice (some ⟨w.heap.size,0,none⟩) 4 4] w2 fun e w'=>e=.returned (zM (fibF A c.m below handler).2)∧St w0 w' c (fibF A c.m below handler).1 top last):=Lib.hid (fun w2 e=>by
  have h2:St w0 w2 c A top last:=by rw[e];exact(h.alloc _).drew
  exact vobject_c h2 7 (by omega) [below,45,smW (-1),handler] (by
   intro x hx;simp at hx;rcases hx with rfl|rfl|rfl|rfl
   ·exact hb
   ·exact zG
   ·exact zH _
   ·exact hh) _ 4 4 (fd_new h _ 28 w2 (by rw[e,blk_drew,zB,if_pos rfl];rfl)) rfl (by omega))
 have SM:=fun w=>zb (-1) w (by omega) (by omega)
 have SM:=Lib.hid SM;have HK:=Lib.hid h.a.k;clear h hb hh;obtain⟨r,hr⟩: ∃r,r=fibF A c.m below handler:=⟨_,rfl⟩;rw[←hr]at CO⊢;obtain⟨A1,o⟩:=r;clear hr;generalize smW (-1)=sm at*;have WV:Hid (∃x b,zM o=.tuple #[.int .u64 x,.bool b]):=Lib.hid (wordVal_tuple o);obtain⟨x,b,hxb⟩:=WV.out;simp only[hxb]at CO⊢;clear WV hxb;have KEEP:Hid (∀w_,Fr [] w w_→w_.cell? ⟨c.kb,0,none⟩=some (.pointer (some ⟨c.sb,0,none⟩))):=Lib.hid (fun w_ hF=>zA (hF.at HK.out (by simp)) rfl);go_enter Tryz.func61,Tryz.ntmps61;go_wp2;go_region_held3 (fun w_=>w_.cell? ⟨c.kb,0,none⟩=some (.pointer (some ⟨c.sb,0,none⟩))) (with_reducible first|exact h1.k0|exact KEEP.out _ (Fr.refl [] _).drew|exact KEEP.out _ ((Fr.refl [] _).alloc _).drew|exact KEEP.out _ (Fr.refl [] _)) (first|(go_at_call 49;refine Calls.mono (zK _) ?_;rintro e w' ⟨rfl,rfl⟩)|(go_at_call 62;refine Calls.mono (SM.out _) ?_;rintro e w' ⟨rfl,rfl⟩)|(go_at_call 64;refine Calls.mono (CO.out _ rfl) ?_;rintro e w1 ⟨rfl,h1⟩))
 all_goals
  go_wp2;go_ret2;exact⟨rfl,h1⟩
def segF(A:Ar)(m:Nat)(prev room:Int):Ar×Option Int:=
 match(makeF A m 15 (2+room)).2 with
 |none=>((makeF A m 15 (2+room)).1,none)
 |some x=>(stF (stF (makeF A m 15 (2+room)).1 m x 0 prev) m x 1 (smW 0),some x)
theorem ksegment_c(h:St w0 w c A top last)(prev room:Int)(hp:W64 prev)(r0:0≤room)(r1:room≤1000000):Calls Tryz.prog 100 #[.pointer (some ⟨c.kb,0,none⟩),.int .u64 prev,.int .i64 room] w fun e w'=>e=.returned (zM (segF A c.m prev room).2)∧St w0 w' c (segF A c.m prev room).1 top last:=by
 have k0:=h.k0;have CV:=Lib.hid (vheap_c h);have CM:=Lib.hid (omake_s h 15 (2+room));have WX:=Lib.hid (makeF_wd h.a.wd c.m 15 (2+room)).2;have SG:Hid (segF A c.m prev room=match(makeF A c.m 15 (2+room)).2 with|none=>((makeF A c.m 15 (2+room)).1,none)|some x=>(stF (stF (makeF A c.m 15 (2+room)).1 c.m x 0 prev) c.m x 1 (smW 0),some x)):=Lib.hid rfl;cases ho:(makeF A c.m 15 (2+room)).2 with
 |none=>
  rw[ho]at CM SG;rw[SG.out];clear ho SG WX h;go_enter Tryz.func100,Tryz.ntmps100;go_wp2_with fail;refine CV.out.mono ?_;rintro e w' ⟨rfl,rfl⟩;go_wp2_with fail;refine CM.out.mono ?_;rintro e w1 ⟨rfl,h1⟩;simp only[zM];go_wp2;go_ret2;exact⟨rfl,h1⟩
 |some x=>
  rw[ho]at CM SG;rw[SG.out];have hx:=WX.out x ho;clear ho SG WX h;generalize (makeF A c.m 15 (2+room)).1=A1 at*;go_enter Tryz.func100,Tryz.ntmps100;go_wp2_with fail;refine CV.out.mono ?_;rintro e w' ⟨rfl,rfl⟩;go_wp2_with fail;refine CM.out.mono ?_;rintro e w1 ⟨rfl,h1⟩;simp only[zM];go_wp2_with (first|(go_at_call 67;refine(zv ‹_› _ _ _ (by first|assumption|exact St.gw ‹_› _ _|exact St.tw ‹_›|exact zG|exact zJ|exact zH _) (by first|exact I64.of (by omega)|assumption) (by first|assumption|exact St.gw ‹_› _ _|exact St.tw ‹_›|exact zG|exact zJ|exact zH _)).mono ?_;rintro e w' ⟨rfl,_⟩)|(go_at_call 62;refine(zb _ _ (by omega) (by omega)).mono ?_;rintro e w' ⟨rfl,rfl⟩));go_ret2;exact⟨rfl,by assumption⟩
theorem kused_c(h:St w0 w c A top last)(x:Int)(hx:W64 x):Calls Tryz.prog 70 #[.pointer (some ⟨c.kb,0,none⟩),.int .u64 x] w fun e w'=>e=.returned (.int .i64 (nmF A c.m x 1))∧St w0 w' c A top last:=by
 go_enter Tryz.func70,Tryz.ntmps70;go_wp2_with (first|(go_at_call 66;refine(knum_c ‹_› _ _ (by first|assumption|exact St.gw ‹_› _ _|exact St.tw ‹_›|exact zG|exact zJ|exact zH _) (by first|exact I64.of (by omega)|assumption)).mono ?_;rintro e w' ⟨rfl,_⟩));go_ret;exact⟨rfl,by assumption⟩
def rmF(A:Ar)(m:Nat)(x:Int):Int:=max 0 (szF A m x-2)
theorem kroom_c(h:St w0 w c A top last)(x:Int)(hx:W64 x):Calls Tryz.prog 99 #[.pointer (some ⟨c.kb,0,none⟩),.int .u64 x] w fun e w'=>e=.returned (.int .i64 (rmF A c.m x))∧St w0 w' c A top last:=by
 have k0:=h.k0;have CV:=Lib.hid (vheap_c h);have CZ:=Lib.hid (osize_s h x hx);obtain⟨b1,b2⟩:=szF_b h.a.wd (m:=c.m) hx;unfold rmF;generalize szF A c.m x=z at*;clear h hx;by_cases hz:z-2≤0
 ·have e1:max 0 (z-2)=0:=by omega
  rw[e1];go_enter Tryz.func99,Tryz.ntmps99;go_wp2_with fail;refine CV.out.mono ?_;rintro e w' ⟨rfl,rfl⟩;go_wp2_with fail;refine CZ.out.mono ?_;rintro e w1 ⟨rfl,h1⟩;go_wp2;go_ret;exact⟨ret_int (by omega),h1⟩
 ·have e1:max 0 (z-2)=z-2:=by omega
  rw[e1];go_enter Tryz.func99,Tryz.ntmps99;go_wp2_with fail;refine CV.out.mono ?_;rintro e w' ⟨rfl,rfl⟩;go_wp2_with fail;refine CZ.out.mono ?_;rintro e w1 ⟨rfl,h1⟩;go_wp2;go_ret;exact⟨ret_int (by omega),h1⟩
theorem kat_c(h:St w0 w c A top last):Calls Tryz.prog 78 #[.pointer (some ⟨c.kb,0,none⟩)] w fun e w'=>e=.returned (.tuple #[.int .u64 (gtF A c.m top 1),.int .i64 (2+nmF A c.m top 2),.bool (nmF A c.m top 2 != -1)])∧St w0 w' c A top last:=by
 have hb:=wVal_b (h.gw top 2);have e1:IntKind.i64.wrap (2+nmF A c.m top 2)=2+nmF A c.m top 2:=IntWalk.i64_in _ (by unfold nmF;omega);clear hb;go_enter Tryz.func78,Tryz.ntmps78;go_wp2_with (first|(go_at_call 46;refine(zh ‹_›).mono ?_;rintro e w' ⟨rfl,rfl⟩)|(go_at_call 52;refine(zU ‹_› _ _ (by first|assumption|exact St.gw ‹_› _ _|exact St.tw ‹_›|exact zG|exact zJ|exact zH _) (by first|exact I64.of (by omega)|assumption)).mono ?_;rintro e w' ⟨rfl,_⟩)|(go_at_call 66;refine(knum_c ‹_› _ _ (by first|assumption|exact St.gw ‹_› _ _|exact St.tw ‹_›|exact zG|exact zJ|exact zH _) (by first|exact I64.of (by omega)|assumption)).mono ?_;rintro e w' ⟨rfl,_⟩));go_ret3;exact⟨rfl,by assumption⟩
end
end Go.Proofs.YtghkahcogphomaaGreat
