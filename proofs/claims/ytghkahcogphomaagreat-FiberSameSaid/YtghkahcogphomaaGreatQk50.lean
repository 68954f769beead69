/- Fibers: a part of the walk. No condition. -/
import Derived.Test.YtghkahcogphomaaGreatQk49
set_option linter.all false
namespace Go.Proofs.YtghkahcogphomaaGreat
section
open Go.ChangeShapes Go.WideShapes Go.RowKit
variable{w w':World}
theorem fib_gen{A:Ar}{m r:Nat}(hq:Hq A m fun _=>none)(hr:Room A m (r+1)): ∃f,(fibF A m 45 45).2=some f∧W64 f∧∃M,Hq (fibF A m 45 45).1 m M∧Rep M f newK []:=by
 rcases hq.fiber zG zG with⟨h,_⟩|⟨x,h1,h2,h3,h4,M,h5,h6,h7⟩
 ·exfalso;obtain⟨k,hk,_⟩:=hr.alloc (((4:Nat):Int)+1) (by omega) (by omega)
  have hm: ∃y,(makeF A m 7 (4:Nat)).2=some y:=by
   unfold makeF;rw[if_neg (by omega),hk];exact⟨_,rfl⟩
  obtain⟨y,hy⟩:=hm
  have he:objF A m 7 [45,45,smW (-1),45]=(setN (makeF A m 7 (4:Nat)).1 m y [45,45,smW (-1),45] 4,some y):=by
   unfold objF;show(match(makeF A m 7 ((4:Nat):Int)).2 with|none=>_|some x=>_)=_;rw[hy];rfl
  unfold fibF at h;rw[he]at h;cases h
 ·refine⟨x,h1,h4,M,h5,⟨⟨[x]++[],[],⟨45,[x],[],⟨⟨45, -1,45,[],h7,.bare,rfl,rfl,by simp⟩,⟨fun f hf=>(nomatch hf),fun H hH=>(nomatch hH)⟩⟩,⟨rfl,rfl⟩,rfl,by simp⟩,⟨rfl,rfl⟩,by simp⟩,by simp[newK]⟩⟩
section
variable{w0 w w1 w':World}{c:Sk}{A A':Ar}{top:Int}{last:Value}
def NewSt2(sb m:Nat)(rem:Bool)(A1:Ar)(f:Int)(w:World)(B:Nat)(e:Ending)(w':World):Prop:= ∃c:Sk,c.sb=sb∧e=.returned (.tuple #[.pointer (some ⟨c.kb,0,none⟩),.bool true])∧c.m=m∧c.rem=rem∧St w' w' c A1 f (.pointer none)∧Gs B c∧(∀B0,B0.heap.size≤B→Fr [] B0 w→Fr [] B0 w')
set_option maxHeartbeats 1000000 in
theorem knew_s(h:Sp w w c A)(rem:Bool)(B:Nat)(hB:B≤w.heap.size)(hg:Ge B c)(f:Int)(hf:(fibF A c.m 45 45).2=some f)(hw:W64 f):Calls Tryz.prog 14 #[.pointer (some ⟨c.sb,0,none⟩),.bool rem] w (NewSt2 c.sb c.m rem (fibF A c.m 45 45).1 f w B):=by
 obtain⟨c2,hc2⟩: ∃c2:Sk,c2=⟨w.heap.size,c.sb,0,c.hb,c.b,c.wb,c.lb,c.m,rem,c.nv,c.mv⟩:=⟨_,rfl⟩
 have h2:Sp (w.alloc (.cells #[.pointer (some ⟨c.sb,0,none⟩),.slice none 0 0,.bool rem,.pointer none] 92)) (w.alloc (.cells #[.pointer (some ⟨c.sb,0,none⟩),.slice none 0 0,.bool rem,.pointer none] 92)) c2 A:=by
  rw[hc2];have:=h.alloc (.cells #[.pointer (some ⟨c.sb,0,none⟩),.slice none 0 0,.bool rem,.pointer none] 92);exact⟨⟨this.a.s,this.a.h,this.a.ok,this.a.wd,this.a.ap⟩,Fr.refl _ _⟩
 have hk2:KbAt (w.alloc (.cells #[.pointer (some ⟨c.sb,0,none⟩),.slice none 0 0,.bool rem,.pointer none] 92)) c2:=by
  rw[hc2];unfold KbAt;rw[zB,if_pos rfl]
 have hlow:c2.low=c.low:=by rw[hc2];rfl
 have hkb:c2.kb=w.heap.size:=by rw[hc2]
 have CF:=kfiber_p h2 hk2 (by rw[hlow,hkb];intro hm;have:=low_lt h hm;omega);have hm2:c2.m=c.m:=by rw[hc2]
 rw[hm2,hf,hkb]at CF;simp only[zM]at CF;have CF:=Lib.hid CF;have C2:=Lib.hid hc2;have H:=Lib.hid h;have HG:=Lib.hid hg;have HW:=Lib.hid hw;generalize (fibF A c.m 45 45).1=A1 at*;clear hf h2 hk2 hlow hkb hm2 hc2 h hg hw;go_enter Tryz.func14,Tryz.ntmps14;go_wp2_with (first|(go_at_call 49;refine(zK _).mono ?_;rintro e w' ⟨rfl,rfl⟩));refine CF.out.mono ?_;rintro e w1 ⟨rfl,h1,hk1⟩
 have hk1':blk w1 w.heap.size=some (.cells #[.pointer (some ⟨c.sb,0,none⟩),.slice none 0 0,.bool rem,.pointer none] 92 (0,0)):=by
  have:=hk1;unfold KbAt at this;rw[C2.out]at this;exact this
 have c1:w1.cell? ⟨w.heap.size,1,none⟩=some (.slice none 0 0):=zA hk1' rfl;have f1:w1.frozen? ⟨w.heap.size,1,none⟩=false:=zE hk1';have lk:w.heap.size<w1.heap.size:=zF hk1'
 have D:Hid (NewSt2 c.sb c.m rem A1 f w B (.returned (.tuple #[.pointer (some ⟨w.heap.size,0,none⟩),.bool true])) ((w1.setCell ⟨w.heap.size,1,none⟩ (.slice (some ⟨w1.heap.size,0,none⟩) 1 1)).alloc (.cells #[.int .u64 f] 28))):=Lib.hid (by
  have l0:w.heap.size<w1.heap.size:=zF hk1';have hs:=h1.a;have hc:=C2.out;have q1:=zF hs.s;have q2:=zF hs.h.p;have q3:=zF hs.h.ar.hb;have q4:=zF hs.h.ar.hw;have q5:=zF hs.h.ar.hl;rw[hc]at q1 q2 q3 q4 q5 hs;simp only at q1 q2 q3 q4 q5;have p1:=zF H.out.a.s;have p2:=zF H.out.a.h.p;have p3:=zF H.out.a.h.ar.hb;have p4:=zF H.out.a.h.ar.hw;have p5:=zF H.out.a.h.ar.hl;have hF:Fr [w.heap.size] w1 ((w1.setCell ⟨w.heap.size,1,none⟩ (.slice (some ⟨w1.heap.size,0,none⟩) 1 1)).alloc (.cells #[.int .u64 f] 28)):=((Fr.refl _ _).setCell (by simp) _).alloc _;have key: ∀x,x≠w.heap.size→x∉ [w.heap.size]:=fun x hx hm=>by simp at hm;exact hx hm
  have ap:=H.out.a.ap;simp only[List.nodup_cons,List.mem_cons,List.not_mem_nil,or_false,not_or,List.nodup_nil,and_true,not_false_eq_true]at ap;refine⟨⟨w.heap.size,c.sb,w1.heap.size,c.hb,c.b,c.wb,c.lb,c.m,rem,c.nv,c.mv⟩,rfl,rfl,rfl,rfl,⟨⟨?_,hF.at hs.s (key _ (by show c.sb≠_;omega)), ?_,hs.h.fr hF (key _ (by show c.hb≠_;omega)) (key _ (by show c.b≠_;omega)) (key _ (by show c.wb≠_;omega)) (key _ (by show c.lb≠_;omega)),hs.ok,hs.wd,HW.out, ?_⟩,Fr.refl _ _⟩,⟨⟨HG.out.sb,HG.out.hb,HG.out.b,HG.out.wb,HG.out.lb⟩,hB, ?_⟩, ?_⟩
  ·show blk _ w.heap.size=_
   rw[zB,if_neg (by rw[size_set];omega),zD,if_pos rfl,hk1'];rfl
  ·show blk _ w1.heap.size=_
   rw[zB,if_pos (by rw[size_set])]
  ·simp only[List.nodup_cons,List.mem_cons,List.not_mem_nil,or_false,not_or,List.nodup_nil,and_true,not_false_eq_true];omega
  ·show B≤w1.heap.size
   omega
  ·intro B0 hb0 hF0
   have g1:Fr c.low w w1:=by
    have:=h1.fr;rw[hc]at this;exact(((Fr.refl c.low w).alloc _)).same this
   have g2:Fr [] B0 w1:=hF0.trans g1 (fun x hx=>by
    right;unfold Sk.low at hx;simp only[List.mem_cons,List.not_mem_nil,or_false]at hx;have:=HG.out;rcases hx with rfl|rfl|rfl
    ·have:=HG.out.b;omega
    ·have:=HG.out.wb;omega
    ·have:=HG.out.lb;omega)
   exact g2.trans hF (fun x hx=>by
    right;simp at hx;subst hx;omega))
 clear hk1' h1 hk1 CF;go_wp2;go_ret2;exact D.out
end
theorem new_md{X:List Nat}{B g:Nat}(ho:w'.ownsRow B 117 6 (.slice (some ⟨g,0,none⟩) 1 1) 1 [.slice none 0 0,.bool false,.bool false,.int .u64 0,.slice none 0 0,.slice none 0 0])(hX: ∀z,z∈X→z<B):MdR X w' ⟨some ⟨g,0,none⟩,1,1⟩ SV.none newK:=by
 refine⟨⟨[⟨⟨[],none⟩,[],SV.none,SV.none,SV.none⟩],rfl, ?_, ?_⟩,⟨[],rfl,Rd.nil,by simp⟩⟩
 ·exact Rd.of_own ho (zl _ BV.one [⟨⟨[],none⟩,[],SV.none,SV.none,SV.none⟩]) hX
 ·intro y hy;simp at hy;subst hy;exact⟨rfl,⟨Rd.nil,by simp⟩,rfl,rfl⟩
def MadeR(w:World)(e:Ending)(w':World):Prop:= ∃(xb:Nat) (c:Sk) (s:SV),e=.returned (.pointer (some ⟨xb,0,none⟩))∧(∀Y0:List Nat,(∀y,y∈Y0→y<w.heap.size)→RunAt (Y0++xb::c.all) w' xb c newK [] (.slice none 0 0) s SV.none false)∧(∀y,y∈xb::c.all→w.heap.size≤y)∧Fr [] w w'
theorem gs_all{B:Nat}{c:Sk}(h:Gs B c): ∀x,x∈c.all→B≤x:=by
 obtain⟨⟨h1,h2,h3,h4,h5⟩,h6,h7⟩:=h;intro x hx;simp only[Sk.all,List.mem_cons,List.not_mem_nil,or_false]at hx;rcases hx with rfl|rfl|rfl|rfl|rfl|rfl|rfl<;>assumption
theorem runmade_c(w:World)(rem:Bool):Calls Tryz.prog 7 #[.int .i64 600,.bool rem] w (MadeR w):=by
 obtain⟨A0,hA0⟩: ∃A,A=Ar.new 600:=⟨_,rfl⟩;obtain⟨f,e1,e2,M,e3,e4⟩:=fib_gen (A:=A0) (m:=600) (r:=599) (by rw[hA0];exact Hq.start (by omega) (by omega)) (by rw[hA0];exact Room.new (by omega) (by omega));have CV:=Lib.hid (vnew_c 600 600 (by decide) (by omega) (by omega) w)
 have CN:Hid (∀(w1:World) (c:Sk),c.m=600→Sp w1 w1 c (Ar.new 600)→w.heap.size≤w1.heap.size→Ge w.heap.size c→Calls Tryz.prog 14 #[.pointer (some ⟨c.sb,0,none⟩),.bool rem] w1 (NewSt2 c.sb 600 rem (fibF A0 600 45 45).1 f w1 w.heap.size)):=Lib.hid (fun w1 c hm h hB hG=>by
  rw[←hA0]at h;have:=knew_s h rem w.heap.size hB hG f (by rw[hm];exact e1) e2;rw[hm]at this;exact this)
 have E3:=Lib.hid e3;have E4:=Lib.hid e4;generalize (fibF A0 600 45 45).1=A1 at*;clear e1 e2 e3 e4 hA0;go_enter Tryz.func7,Tryz.ntmps7;go_wp2_with fail;refine CV.out.mono ?_;rintro e w1 ⟨c,rfl,hm,hS,hF,hG⟩;have CN1:=Lib.hid (CN.out w1 c hm hS hF.size hG);have F1:=Lib.hid hF;clear CV CN hm hS hF hG;go_wp2_with fail;refine CN1.out.mono ?_;rintro e w2 ⟨c2,hsb,rfl,hm,hr,hS,hG,hB⟩;rw[←hsb];clear hsb;have S2:=Lib.hid hS;have F2:=Lib.hid (hB w (Nat.le_refl _) F1.out);have G2:=Lib.hid hG;have M2:=Lib.hid hm;clear CN1 hm hr hS hG hB;go_wp2_with (go_at_call 20;refine(mnew_c _).mono ?_;rintro e w3 ⟨g,rfl,ho,hF3⟩);go_ret;have hal:=S2.out.all_lt;have F3:Fr [] w w3:=F2.out.trans hF3 (by simp);refine⟨w3.heap.size,c2,⟨some ⟨g,0,none⟩,1,1⟩,rfl,fun Y0 hY0=> ?_,fun y hy=> ?_,F3.alloc _⟩
 ·have hs2:=F2.out.size;have hs3:=hF3.size
  have hX: ∀z,z∈Y0++c2.all→z<w2.heap.size:=fun z hz=>by
   rcases List.mem_append.1 hz with hz|hz
   ·exact Nat.lt_of_lt_of_le (hY0 z hz) hs2
   ·exact hal z hz
  have hm:=new_md ho hX
  have hm2:MdR (Y0++w3.heap.size::c2.all) w3 ⟨some ⟨g,0,none⟩,1,1⟩ SV.none newK:=hm.blocks (fun y hy=>by
   rcases List.mem_append.1 hy with hy|hy
   ·exact .inl (List.mem_append_left _ hy)
   ·rcases List.mem_cons.1 hy with rfl|hy
    ·exact .inr (Nat.le_refl _)
    ·exact .inl (List.mem_append_right _ hy))
  refine⟨by rw[zB,if_pos rfl];rfl,⟨_,M,f,_,((S2.out.keep hF3).alloc _).base,by rw[M2.out];exact E3.out,E4.out,.inl rfl⟩,hm2.keep ((Fr.refl _ _).alloc _),⟨⟨rfl,.inl ⟨rfl,rfl⟩⟩,fun _=>rfl⟩,by rw[M2.out];omega,fun hc=> ?_,fun g hg=>by simp[Value.ownBlock]at hg,fun y hy=>by simp[hy],by simp,fun g hg=>by simp[Value.ownBlock]at hg,fun y hy=> ?_⟩
  ·have:=hal _ hc;omega
  ·rw[zC];rcases List.mem_append.1 hy with hy|hy
   ·have:=hY0 y hy;omega
   ·rcases List.mem_cons.1 hy with rfl|hy
    ·omega
    ·have:=hal y hy;omega
 ·rcases List.mem_cons.1 hy with rfl|hy
  ·exact F3.size
  ·exact gs_all G2.out y hy
end
section
open Go.ChangeShapes Go.WideShapes Go.RowKit
variable{w w1 w' wB:World}{Y Y':List Nat}{xb:Nat}{c:Sk}{k k':PK}{rs rs':List Int}{tv tv':Value}{s t s' t':SV}{full full':Bool}{a:AV}
theorem run_own_sub(h:RunAt Y w xb c k rs tv s t full): ∀x,x∈runOwn c xb tv→x∈Y:=fun x hx=>by
 rcases List.mem_append.1 hx with hx|hx
 ·exact h.ownY x hx
 ·rcases List.mem_cons.1 hx with rfl|hx
  ·exact h.sx
  ·exact h.st x (by simpa using hx)
def EI(wB:World)(xb:Nat)(W:World):Prop:= ∃Y c k rs tv s t full,RunAt Y W xb c k rs tv s t full∧(∀y,y∈Y→wB.heap.size≤y)∧Fr [] wB W
theorem ei_step(h:RunAt Y w xb c k rs tv s t full)(hY: ∀y,y∈Y→wB.heap.size≤y)(hF:Fr [] wB w){e:Ending}(hs:StepR Y w xb c k a tv full e w'):e=.returned (.bool true)∧EI wB xb w':=by
 obtain⟨he,Y',k',rs',tv',s',t',full',h1,h2,h3,h4,h5,_⟩:=hs;refine⟨he,Y',c,k',rs',tv',s',t',full',h1,fun y hy=> ?_,hF.trans h5 (fun x hx=> .inr (hY x (run_own_sub h x hx)))⟩;rcases h3 y hy with h|h
 ·exact hY y h
 ·exact Nat.le_trans hF.size h
theorem zero_ok(Y:List Nat)(w:World)(kd:Int)(h:kd=5∨kd=1∨kd=7):AV.Ok Y w ⟨kd,0,0,0,false,[],[],SV.none,SV.none,0,0⟩:=by
 refine⟨WsR.nil,WsR.nil,(show Plain 0 from⟨⟨by omega,by omega⟩,by omega⟩),fun x hx=>(nomatch hx),fun x hx=>(nomatch hx),by simp,by simp, ?_, ?_, ?_⟩
 ·show I64 kd
  unfold I64;omega
 ·show I64 0
  unfold I64;omega
 ·show I64 0
  unfold I64;omega
theorem ei_round(h:EI wB xb w):Calls Tryz.prog 11 #[.pointer (some ⟨xb,0,none⟩)] w fun e w1=>e=.returned (.bool true)∧Hid (ERound (EI wB xb) xb w1):=by
 obtain⟨Y,c,k,rs,tv,s,t,full,h1,h2,h3⟩:=h;refine(same_c h1).mono ?_;rintro e w1 ⟨rfl,hr,hF⟩;refine⟨rfl,Lib.hid ?_⟩;have hB:Fr [] wB w1:=h3.trans hF (fun x hx=> .inr (h2 x (h1.ownY x hx)));obtain⟨p,l,htop⟩:=hr.top;have hsz:=hr.szs
 have CM:Hid (∀W,Fr [] w1 W→Calls Tryz.prog 55 #[.agg #[.slice s.a s.n s.cap,.slice t.a t.n t.cap]] W fun e w'=>e=.returned (.int .i64 (p.fr.length:Int))∧Hid (Fr [] W w')):=Lib.hid fun W hW=>(doc_frames W (hr.md hW) (hr.ltw hW) hsz.fit htop).mono (by
  rintro e w' ⟨rfl,hF'⟩;exact⟨rfl,Lib.hid hF'⟩)
 have CT:Hid (∀W (kd:Int),Fr [] w1 W→(kd=5∨kd=1∨kd=7)→Calls Tryz.prog 8 #[.pointer (some ⟨xb,0,none⟩),.agg #[.int .i64 kd,.int .i64 0,.int .i64 0,.int .u64 0,.bool false,.slice none 0 0,.slice none 0 0,.int .i64 0,.int .i64 0]] W fun e w'=>e=.returned (.bool true)∧Hid (EI wB xb w')):=Lib.hid fun W kd hW hkd=>by
  have:=step_c (hr.keep hW) (zero_ok Y W kd hkd);refine this.mono ?_;intro e w' hs;obtain⟨q1,q2⟩:=ei_step (hr.keep hW) h2 (hB.trans hW (by simp)) hs;exact⟨q1,Lib.hid q2⟩
 have CE:Hid (∀W,Fr [] w1 W→EI wB xb W):=Lib.hid fun W hW=>⟨Y,c,k,rs,tv,s,t,full,hr.keep hW,h2,hB.trans hW (by simp)⟩
 cases hfr:p.fr with
 |nil=>
  refine⟨_,_,tv,s.a,t.a,none,none,s.n,s.cap,t.n,t.cap,0,0,0,0,p.fr.length,full,45,0,0,hr.hb,Lib.hid fun W hW=> ?_,CM,CT,CE⟩;refine(doc_current_no W (hr.md hW) hsz.fit htop hfr).mono ?_;rintro e w' ⟨rfl,hF'⟩;exact⟨rfl,Lib.hid hF'⟩
 |cons f r=>
  obtain⟨sv,qv,_,_,hcall⟩:=doc_current_yes hr.hm hsz.fit htop hfr;refine⟨_,_,tv,s.a,t.a,sv.a,qv.a,s.n,s.cap,t.n,t.cap,sv.n,sv.cap,qv.n,qv.cap,p.fr.length,full,f.cl,f.pc,(f.room:Int),hr.hb,Lib.hid fun W hW=> ?_,CM,CT,CE⟩;refine(hcall W hW).mono ?_;rintro e w' ⟨rfl,hF'⟩;exact⟨rfl,Lib.hid hF'⟩
theorem empties_c(h:EI wB xb w):Calls Tryz.prog 12 #[.pointer (some ⟨xb,0,none⟩)] w fun e w'=>e=.returned (.bool true)∧EI wB xb w':=
 empties_w w xb (EI:=EI wB xb) (Lib.hid h) (Lib.hid fun _ hW=>ei_round hW)
end
section
open Go.ChangeShapes Go.WideShapes Go.RowKit
variable{w w':World}
theorem plain20_c(x:Int)(hx:W64 x)(w:World):Calls Tryz.prog 19 #[.int .u64 x] w fun e w'=>e=.returned (.bool (x%8 !=1))∧w=w':=by
 have h0:=hx.1;have hm:x.tmod 8=x%8:=by rw[Int.tmod_eq_emod_of_nonneg h0]
 go_enter Tryz.func19,Tryz.ntmps19;go_wp2;go_ret;exact⟨by first|rfl|(rw[hm]),rfl⟩
theorem step_appO{ops:Array Oper}{o:Oper}{a:Act}{K:Act→World→Prop}{Q:Exit→Act→World→Prop}{E:Prop}(w:World)(hgd:o.guard=none)(s x:Operand)(t:TypeId)
 (ho:o.op=.call { callee:=.builtin .append,args:= #[s,x],argTypes:= #[t,t]})
 (base:Nat) (e:TypeId) (i:TypeInfo) (z:Value) (size bytes:Nat) (ht:Tryz.prog.underlying t=some (.slice e)) (hi:Tryz.prog.info? e=some i) (hz:i.zero=some z)
 (hsize:i.size=size) (hby:i.bytes=bytes) (hzs:z.cells.size=size) (hsz:0<size)
 (g0 c0 n:Nat) (xs:List Value) (hs:a.eval s=.slice (some ⟨g0,0,none⟩) n c0) (hown:w.ownsRow base e size (.slice (some ⟨g0,0,none⟩) n c0) n xs)
 (oa:Option Addr) (m c:Nat) (news:List Value) (hx:a.eval x=.slice oa m c) (hl:news.length=m*size) (hnews:m=0∨∃ad,oa=some ad∧∀j u,news[j]? =some u→w.cell? (ad.add j)=some u) (h1: ∀u∈news,u.oneCell'=true)
 (h63:n+m≤maxLen) (hbytes:(n+m)*bytes≤140737488355328) (hbase:base≤w.heap.size)
 (h: ∀g cap w',w'.ownsRow base e size (.slice (some ⟨g,0,none⟩) (n+m) cap) (n+m) (xs++news)→Fr [g0] w w'→K (a.put o.dst (.slice (some ⟨g,0,none⟩) (n+m) cap)) w'):
 if Region.wanted o (yielded ops a.tmps)=true then Oper.wp Tryz.prog o a w K Q else E:=by
 by_cases hm:m=0
 ·subst hm;have hw:Region.wanted o (yielded ops a.tmps)=true:=by simp[Region.wanted,hgd]
  have hn0:news=[]:=List.eq_nil_of_length_eq_zero (by rw[hl,Nat.zero_mul]);subst hn0;have hc:=ZC hown
  have hr:(Builtin.append_ #[t,t] o.type #[.slice (some ⟨g0,0,none⟩) n c0,.slice oa 0 c]).run Tryz.prog w=.ok (.slice (some ⟨g0,0,none⟩) n c0) w:=by
   cases oa with
   |some ad=>
    simp[Builtin.append_,run_underlying ht,sizeOf,typeInfo,hi,Builtin.lenOf,Builtin.firstCells,loadCells,loadCellsFrom,hc.1];rw[storeCells];rfl
   |none=>
    simp[Builtin.append_,run_underlying ht,sizeOf,typeInfo,hi,Builtin.lenOf,Builtin.firstCells,loadCells,loadCellsFrom,hc.1];rw[storeCells];rfl
  rw[if_pos hw];unfold Oper.wp execOp;simp only[ho,resolve,invoke,builtin,Sem.run_bind,Sem.run_pure,Result.andThen_ok,List.map_toArray,List.map_cons,List.map_nil,hs,hx,hr];exact h g0 c0 w (by simpa using hown) (Fr.refl _ _)
 ·rcases hnews with h0|⟨ad,rfl,hc⟩
  ·exact absurd h0 hm
  ·exact step_append_lies w hgd s x t ho base e i z size bytes ht hi hz hsize hby hzs hsz _ n xs hs hown ad m c news hx hl hc h1 (by omega) h63 hbytes hbase _ rfl
    (fun g cap w' h2 h3 _ _=>h g cap w' h2 (grown_fr h3))
theorem AV.In.keep{a:AV}(h:a.In w)(hF:Fr [] w w'):a.In w':=⟨Rd.fr (S:=[]) h.l hF (fun x hx=>nomatch hx),Rd.fr (S:=[]) h.q hF (fun x hx=>nomatch hx),h.wd,h.wl,h.wq,h.ik,h.i_n,h.im⟩
theorem IsActs20.keep{a:Option Addr}{len cap:Nat}{N:Nat→AV}(h:IsActs20 w a len cap N)(hF:Fr [] w w'):IsActs20 w' a len cap N:=by
 refine⟨?_,fun i hi=>(h.2.1 i hi).keep hF,h.2.2.1,h.2.2.2⟩;rcases h.1 with h0|⟨b,o,h1,h2,h3⟩
 ·exact .inl h0
 ·exact .inr ⟨b,o,h1,Nat.lt_of_lt_of_le h2 hF.size,fun i hi j u hu=>zd (h3 i hi j u hu) hF (by simp)⟩
structure AV.Fair(a:AV):Prop where
 w:Plain a.word
 l: ∀x,x∈a.ls→Plain x
 q: ∀x,x∈a.ps→Plain x
 ll:a.ls.length≤30
 lq:a.ps.length≤30
theorem IsActs20.at_{a:Option Addr}{len cap:Nat}{N:Nat→AV}{W:World}(h:IsActs20 w a len cap N)(hF:Fr [] w W){i:Nat}(hi:i<len):
 ∃b o,a=some ⟨b,o,none⟩∧b<W.heap.size∧(∀(j:Nat) (u:Value),(N i).cells[j]? =some u→W.cell? ⟨b,o+i*9+j,none⟩=some u):=by
 rcases h.1 with h0|⟨b,o,h1,h2,h3⟩
 ·omega
 ·refine⟨b,o,h1,Nat.lt_of_lt_of_le h2 hF.size,fun j u hu=> ?_⟩;have:=h3 i hi j u hu;rw[Nat.add_assoc];exact zd this hF (by simp)
set_option maxRecDepth 100000 in
set_option maxHeartbeats 4000000 in
theorem fair_c(w:World)(aa:Option Addr)(len cap:Nat)(N:Nat→AV)(h:IsActs20 w aa len cap N)(hlen:len≤120):
 Calls Tryz.prog 6 #[.slice aa len cap] w fun e w'=> ∃b:Bool,e=.returned (.bool b)∧(b=true→∀i,i<len→(N i).Fair)∧Fr [] w w':=by
 have H:=Lib.hid h;have hlc:=h.2.2.1;obtain⟨i1,hii1,hz01,hz11,hz21⟩:=info_parts info_wd;have IW:=Lib.hid hii1;have Y0:=Lib.hid hz01;have Y1:=Lib.hid hz11;have Y2:=Lib.hid hz21;clear hii1 hz01 hz11 hz21 h;have FW:=Lib.hid (Fr.refl [] w);go_enter Tryz.func6,Tryz.ntmps6;go_upto_region 2 with fail
 go_loopw [9] (fun u wr=> ∃k:Nat,k≤len∧u=.int .i64 (k:Int)∧Hid (∀i,i<k→(N i).Fair)∧Hid (Fr [] w wr)) (fun u _=>len-(intOf u).toNat)
 case atStart=>exact⟨0,Nat.zero_le _,rfl,Lib.hid (fun i hi=>by omega),FW⟩
 case round=>
  obtain⟨k,hk,rfl,HJ,HF⟩:=hrel;clear FW;by_cases hlt:k<len
  ·obtain⟨ab,ao,haa,hab,hcell⟩:=H.out.at_ HF.out hlt;have HIN:=Lib.hid (H.out.2.1 k hlt);have hln:(N k).sl.n=(N k).ls.length:=HIN.out.l.ne;have hqn:(N k).sq.n=(N k).ps.length:=HIN.out.q.ne
   obtain⟨kd,n,m,word,deep,la,lc,qa,qc,p0,p1,ls,ps,a0,a1,a2,a3,a4,a5,a6,a7,a8,EE,RL,RQ⟩: ∃(kd n m word:Int) (deep:Bool) (la:Option Addr) (lc:Nat) (qa:Option Addr) (qc:Nat) (p0 p1:Int) (ls ps:List Int),
    wr.cell? ⟨ab,ao+k*9,none⟩=some (.int .i64 kd)∧wr.cell? ⟨ab,ao+k*9+1,none⟩=some (.int .i64 n)∧wr.cell? ⟨ab,ao+k*9+2,none⟩=some (.int .i64 m)∧wr.cell? ⟨ab,ao+k*9+3,none⟩=some (.int .u64 word)∧wr.cell? ⟨ab,ao+k*9+4,none⟩=some (.bool deep)∧wr.cell? ⟨ab,ao+k*9+5,none⟩=some (.slice la ls.length lc)∧wr.cell? ⟨ab,ao+k*9+6,none⟩=some (.slice qa ps.length qc)∧wr.cell? ⟨ab,ao+k*9+7,none⟩=some (.int .i64 p0)∧wr.cell? ⟨ab,ao+k*9+8,none⟩=some (.int .i64 p1)∧
    Hid (W64 word∧(∀x,x∈ls→W64 x)∧(∀x,x∈ps→W64 x)∧(Plain word→(∀x,x∈ls++ps→Plain x)→ls.length≤30→ps.length≤30→(N k).Fair))∧
    Hid (∀W,Fr [] w W→ls.length=0∨∃ad,la=some ad∧∀j u,(zZ ls)[j]? =some u→W.cell? (ad.add j)=some u)∧
    Hid (∀W,Fr [] w W→ps.length=0∨∃ad,qa=some ad∧∀j u,(zZ ps)[j]? =some u→W.cell? (ad.add j)=some u):=by
    refine⟨(N k).kind,(N k).n,(N k).m,(N k).word,(N k).deep,(N k).sl.a,(N k).sl.cap,(N k).sq.a,(N k).sq.cap,(N k).p0,(N k).p1,(N k).ls,(N k).ps,hcell 0 _ rfl,hcell 1 _ rfl,hcell 2 _ rfl,hcell 3 _ rfl,hcell 4 _ rfl, ?_, ?_,hcell 7 _ rfl,hcell 8 _ rfl,Lib.hid ⟨HIN.out.wd,HIN.out.wl,HIN.out.wq,fun h1 h2 h3 h4=>⟨h1,fun x hx=>h2 x (by simp[hx]),fun x hx=>h2 x (by simp[hx]),h3,h4⟩⟩,news_at HIN.out.l,news_at HIN.out.q⟩
    ·rw[←hln];exact hcell 5 _ rfl
    ·rw[←hqn];exact hcell 6 _ rfl
   obtain⟨ln,hlnn⟩: ∃ln,ln=ls.length:=⟨_,rfl⟩;obtain⟨qn,hqnn⟩: ∃qn,qn=ps.length:=⟨_,rfl⟩;have HLN:=Lib.hid hlnn;have HQN:=Lib.hid hqnn;rw[←hlnn]at a5 RL;rw[←hqnn]at a6 RQ;rw[haa];clear hcell hln hqn HIN haa hlnn hqnn;go_upto_region 4 with fail
   obtain⟨W4,hW4⟩: ∃W,W=wr.alloc (.cells #[.int .i64 kd,.int .i64 n,.int .i64 m,.int .u64 word,.bool deep,.slice la ln lc,.slice qa qn qc,.int .i64 p0,.int .i64 p1] 33):=⟨_,rfl⟩;obtain⟨bb,hbb⟩: ∃k,k=wr.heap.size:=⟨_,rfl⟩;have FW4:Hid (Fr [] w W4):=Lib.hid (by rw[hW4];exact HF.out.alloc _);have PB:Hid (blk W4 bb=some (.cells #[.int .i64 kd,.int .i64 n,.int .i64 m,.int .u64 word,.bool deep,.slice la ln lc,.slice qa qn qc,.int .i64 p0,.int .i64 p1] 33 (0,0))):=Lib.hid (by rw[hW4,hbb,zB,if_pos rfl]);have WW:=EE;rw[←hW4]
   try rw[←hbb]
   clear hW4 hbb a0 a1 a2 a3 a4 a5 a6 a7 a8 hab;have b3:=zA PB.out (i:=3) rfl;have b5:=zA PB.out (i:=5) rfl;have b6:=zA PB.out (i:=6) rfl;by_cases hp:word%8=1
   ·have bp:(word%8 !=1)=false:=by simpa using hp
    have HP:=Lib.hid hp;clear hp;go_wp2_with (go_at_call 19;refine(plain20_c word WW.out.1 _).mono ?_;rintro e w' ⟨rfl,rfl⟩;rw[bp]);go_ret;exact⟨false,rfl,by simp,FW4.out⟩
   have bp:(word%8 !=1)=true:=by simpa using hp
   have HP:=Lib.hid hp;clear hp;by_cases hl:30<ln
   ·have bl:decide (30<(ln:Int))=true:=by simp;omega
    go_wp2_with (go_at_call 19;refine(plain20_c word WW.out.1 _).mono ?_;rintro e w' ⟨rfl,rfl⟩;rw[bp]);go_ret;exact⟨false,rfl,by simp,FW4.out⟩
   have bl:decide (30<(ln:Int))=false:=by simp;omega
   by_cases hq:30<qn
   ·have bq:decide (30<(qn:Int))=true:=by simp;omega
    go_wp2_with (go_at_call 19;refine(plain20_c word WW.out.1 _).mono ?_;rintro e w' ⟨rfl,rfl⟩;rw[bp]);go_ret;exact⟨false,rfl,by simp,FW4.out⟩
   have bq:decide (30<(qn:Int))=false:=by simp;omega
   go_upto_region 6 with(go_at_call 19;refine(plain20_c word WW.out.1 _).mono ?_;rintro e w' ⟨rfl,rfl⟩;rw[bp])
   have K4:Hid (∀W,Fr [] W4 W→W.cell? ⟨bb,5,none⟩=some (.slice la ln lc)∧W.cell? ⟨bb,6,none⟩=some (.slice qa qn qc)):=Lib.hid (fun W hF=>by
    have q:=hF.at PB.out (by simp);exact⟨zA q (i:=5) rfl,zA q (i:=6) rfl⟩)
   have ST:=K4.out _ (Fr.refl _ _);have OW1:Hid (((W4.alloc (.cells #[] 28)).drew).ownsRow W4.heap.size 28 1 (.slice (some ⟨W4.heap.size,0,none⟩) 0 0) 0 []):=Lib.hid (own_mk (cur:= #[]) (by show blk (World.alloc W4 _) _=_;rw[zB,if_pos rfl]) (Nat.le_refl _) (Nat.le_refl _) (Nat.zero_le _) rfl rfl);have F41:Hid (Fr [] W4 ((W4.alloc (.cells #[] 28)).drew)):=Lib.hid (((Fr.refl _ _).alloc _).drew);have NL1:=Lib.hid (RL.out _ (FW4.out.trans F41.out (by simp)));have LW:Hid ((zZ ls).length=ln*1):=Lib.hid (by rw[HLN.out];simp[zZ]);have LQ:Hid ((zZ ps).length=qn*1):=Lib.hid (by rw[HQN.out];simp[zZ]);have ON1:=Lib.hid (zz ls);have ON2:=Lib.hid (zz ps);have S41:Hid (W4.heap.size≤(((W4.alloc (.cells #[] 28)).drew)).heap.size):=Lib.hid F41.out.size;clear b3 b5 b6 bp bl bq;go_region_held3 (fun W=>W.cell? ⟨bb,5,none⟩=some (.slice la ln lc)∧W.cell? ⟨bb,6,none⟩=some (.slice qa qn qc)) (first|(with_reducible first|assumption|exact K4.out _ ((Fr.refl _ _).drew)|exact K4.out _ (((Fr.refl _ _).alloc _).drew)|exact K4.out _ F45.out|exact K4.out _ F47.out)) (first|(refine step_appO _ rfl (.tmp 29) (.tmp 31) 29 rfl W4.heap.size 28 i1 (.int .u64 0) 1 8 Tryz.underlying29 IW.out Y0.out Y1.out Y2.out rfl (by decide) W4.heap.size 0 0 [] rfl OW1.out la ln lc (zZ ls) rfl LW.out NL1.out ON1.out (by unfold maxLen;omega) (by omega) S41.out ?_;intro g5 c5 w5 own5 fr5;rw[Nat.zero_add,List.nil_append]at own5;rw[Nat.zero_add];have OR5:=Lib.hid own5;have F45:Hid (Fr [] W4 w5):=Lib.hid (F41.out.trans fr5 (fun x hx=> .inr (by simp only[List.mem_singleton]at hx;omega)));have S45:=Lib.hid F45.out.size;have NQ5:=Lib.hid (RQ.out _ (FW4.out.trans F45.out (by simp)));clear own5 fr5)|(refine step_appO _ rfl (.tmp 32) (.tmp 34) 29 rfl W4.heap.size 28 i1 (.int .u64 0) 1 8 Tryz.underlying29 IW.out Y0.out Y1.out Y2.out rfl (by decide) g5 c5 ln (zZ ls) rfl OR5.out qa qn qc (zZ ps) rfl LQ.out NQ5.out ON2.out (by unfold maxLen;omega) (by omega) S45.out ?_;intro g7 c7 w7 own7 fr7;have OR7:=Lib.hid own7;have F47:Hid (Fr [] W4 w7):=Lib.hid (F45.out.trans fr7 (fun x hx=> .inr (by simp only[List.mem_singleton]at hx;have:=zN OR5.out;omega)));clear own7 fr7))
   all_goals
    have TL:Hid (ln+qn=(ls++ps).length):=Lib.hid (by rw[List.length_append,HLN.out,HQN.out]);have FW7:Hid (Fr [] w w7):=Lib.hid (FW4.out.trans F47.out (by simp))
    have RD7:Hid (∀j z,(ls++ps)[j]? =some z→w7.cell? ⟨g7,j,none⟩=some (.int .u64 z)):=Lib.hid (fun j z hz=>zX OR7.out (by
     have e:zZ ls++zZ ps=zZ (ls++ps):=by simp[zZ]
     rw[e];unfold zZ;rw[List.getElem?_map,hz];rfl))
    have hc7:=(ZC OR7.out).1;obtain⟨tl,htl⟩: ∃tl,tl=ln+qn:=⟨_,rfl⟩;have htl60:tl≤60:=by omega
    rw[←htl]at TL hc7;have hg7:=own_lt OR7.out;go_upto_region 7 with fail
    have ecast:(ln:Int)+(qn:Int)=(tl:Int):=by omega
    try rw[ecast]
    try rw[←htl]
    clear ecast htl;go_loopw [37] (fun y wz=> ∃j:Nat,j≤tl∧y=.int .i64 (j:Int)∧wz=w7∧Hid (∀i z,i<j→(ls++ps)[i]? =some z→Plain z)) (fun y _=>tl-(intOf y).toNat)
    case atStart=>exact⟨0,Nat.zero_le _,rfl,rfl,Lib.hid (fun i z hi=>by omega)⟩
    case round=>
     obtain⟨j,hj,rfl,rfl,HP2⟩:=hrel;by_cases hlj:j<tl
     ·obtain⟨z,hz⟩: ∃z,(ls++ps)[j]? =some z:=⟨_,List.getElem?_eq_getElem (by rw[←TL.out];exact hlj)⟩;have d0:=RD7.out j z hz
      have hzw:W64 z:=by
       rcases List.mem_append.1 (List.mem_of_getElem? hz)with h|h
       ·exact WW.out.2.1 z h
       ·exact WW.out.2.2.1 z h
      have HZ:=Lib.hid hz;have HZW:=Lib.hid hzw;clear hz hzw;by_cases hp2:z%8=1
      ·have bp2:(z%8 !=1)=false:=by simpa using hp2
       have HP3:=Lib.hid hp2;clear hp2;go_wp2_with (go_at_call 19;refine(plain20_c z HZW.out _).mono ?_;rintro e w' ⟨rfl,rfl⟩;rw[bp2]);go_ret;exact⟨false,rfl,by simp,FW7.out⟩
      ·have bp2:(z%8 !=1)=true:=by simpa using hp2
       have NXT:Hid (∀i y,i<j+1→(ls++ps)[i]? =some y→Plain y):=Lib.hid (fun i y hi hy=>by
        rcases Nat.lt_or_ge i j with h|h
        ·exact HP2.out i y h hy
        ·have:i=j:=by omega
         subst this;rw[HZ.out]at hy;injection hy with hy
         subst hy;exact⟨HZW.out,hp2⟩)
       have HP3:=Lib.hid hp2;clear hp2 HP2;go_wp2_with (go_at_call 19;refine(plain20_c z HZW.out _).mono ?_;rintro e w' ⟨rfl,hw⟩;have HW:=Lib.hid hw;clear hw;rw[bp2]);go_roundw
       case rel=>exact⟨j+1,by omega,by rw[Int.natCast_add];rfl,HW.out.symm,NXT⟩
       case measure=>show tl-((j:Int)+1).toNat<tl-(j:Int).toNat;omega
     ·obtain rfl:j=tl:=by omega
      have NXK:Hid (∀i,i<k+1→(N i).Fair):=Lib.hid (fun i hi=>by
       rcases Nat.lt_or_ge i k with h|h
       ·exact HJ.out i h
       ·have:i=k:=by omega
        subst this;refine WW.out.2.2.2 ⟨WW.out.1,HP.out⟩ (fun y hy=> ?_) (by rw[←HLN.out];omega) (by rw[←HQN.out];omega);obtain⟨q,hq1,hq2⟩:=List.mem_iff_getElem.1 hy;exact HP2.out q y (by rw[TL.out];exact hq1) (by rw[List.getElem?_eq_getElem hq1,hq2]))
      clear HJ HF;go_wp2;go_roundw
      case rel=>exact⟨k+1,by omega,by rw[Int.natCast_add];rfl,NXK,FW7⟩
      case measure=>show len-((k:Int)+1).toNat<len-(k:Int).toNat;omega
  ·obtain rfl:k=len:=by omega
   go_wp2;go_ret;exact⟨true,rfl,fun _=>HJ.out,HF.out⟩
end
section
open Go.ChangeShapes Go.WideShapes Go.RowKit
variable{w w1 w' wB:World}{Y Y':List Nat}{xb:Nat}{c:Sk}{k k':PK}{rs rs':List Int}{tv tv':Value}{s t s' t':SV}{full full':Bool}{a:AV}
def EFx(wB:World)(xb:Nat)(f:Bool)(W:World):Prop:= ∃Y c k rs tv s t,RunAt Y W xb c k rs tv s t f∧(∀y,y∈Y→wB.heap.size≤y)∧Fr [] wB W
theorem EFx.fr{f:Bool}(h:EFx wB xb f w):Fr [] wB w:=by obtain⟨_,_,_,_,_,_,_,_,_,h⟩:=h;exact h
theorem EFx.ei{f:Bool}(h:EFx wB xb f w):EI wB xb w:=by
 obtain⟨Y,c,k,rs,tv,s,t,h1,h2,h3⟩:=h;exact⟨Y,c,k,rs,tv,s,t,f,h1,h2,h3⟩
theorem EFx.cell{f:Bool}(h:EFx wB xb f w):w.cell? ⟨xb,5,none⟩=some (.bool f):=by
 obtain⟨Y,c,k,rs,tv,s,t,h1,_⟩:=h;exact zA h1.hb.out (i:=5) rfl
theorem EFx.keep{f:Bool}(h:EFx wB xb f w)(hF:Fr [] w w'):EFx wB xb f w':=by
 obtain⟨Y,c,k,rs,tv,s,t,h1,h2,h3⟩:=h;exact⟨Y,c,k,rs,tv,s,t,h1.keep hF,h2,h3.trans hF (by simp)⟩
theorem act_ok(ha:a.In wB)(hf:a.Fair)(hY: ∀y,y∈Y→wB.heap.size≤y)(hF:Fr [] wB w):a.Ok Y w:=
 ⟨Rd.fr (S:=[]) (Rd.blocks ha.l (fun y hy=> .inr (hY y hy))) hF (fun x hx=>nomatch hx),Rd.fr (S:=[]) (Rd.blocks ha.q (fun y hy=> .inr (hY y hy))) hF (fun x hx=>nomatch hx),hf.w,hf.l,hf.q,hf.ll,hf.lq,ha.ik,ha.i_n,ha.im⟩
theorem efx_step(h:EFx wB xb false w)(ha:a.In wB)(hf:a.Fair):Calls Tryz.prog 8 #[.pointer (some ⟨xb,0,none⟩),.agg a.cells] w fun e w'=>e=.returned (.bool true)∧∃f,Hid (EFx wB xb f w'):=by
 obtain⟨Y,c,k,rs,tv,s,t,h1,h2,h3⟩:=h;refine(step_c h1 (act_ok ha hf h2 h3)).mono ?_;rintro e w' ⟨he,Y',k',rs',tv',s',t',full',q1,q2,q3,q4,q5,_⟩;refine⟨he,full',Lib.hid ⟨Y',c,k',rs',tv',s',t',q1,fun y hy=> ?_,h3.trans q5 (fun x hx=> .inr (h2 x (run_own_sub h1 x hx)))⟩⟩;rcases q3 y hy with h|h
 ·exact h2 y h
 ·exact Nat.le_trans h3.size h
theorem efx_same{f:Bool}(h:EFx wB xb f w):Calls Tryz.prog 11 #[.pointer (some ⟨xb,0,none⟩)] w fun e w'=>e=.returned (.bool true)∧Hid (EFx wB xb f w'):=by
 obtain⟨Y,c,k,rs,tv,s,t,h1,h2,h3⟩:=h;refine(same_c h1).mono ?_;rintro e w' ⟨rfl,hr,hF⟩;exact⟨rfl,Lib.hid ⟨Y,c,k,rs,tv,s,t,hr,h2,h3.trans hF (fun x hx=> .inr (h2 x (h1.ownY x hx)))⟩⟩
theorem efx_made(w:World)(rem:Bool)(hB:Fr [] wB w):Calls Tryz.prog 7 #[.int .i64 600,.bool rem] w fun e w'=> ∃xb,e=.returned (.pointer (some ⟨xb,0,none⟩))∧Hid (EFx wB xb false w'):=by
 refine(runmade_c w rem).mono ?_;rintro e w' ⟨xb,c,s,rfl,h1,h2,h3⟩;refine⟨xb,rfl,Lib.hid ⟨[]++xb::c.all,c,newK,[],_,s,SV.none,h1 [] (fun y hy=>nomatch hy),fun y hy=>Nat.le_trans hB.size (h2 y (by simpa using hy)),hB.trans h3 (by simp)⟩⟩
theorem act_letters{aa:Option Addr}{len cap:Nat}{N:Nat→AV}{W:World}{i:Nat}(h:IsActs20 wB aa len cap N)(hF:Fr [] wB W)(hi:i<len):
 ∃(ab ao:Nat) (kd n m word:Int) (deep:Bool) (la:Option Addr) (ln lc:Nat) (qa:Option Addr) (qn qc:Nat) (p0 p1:Int),aa=some ⟨ab,ao,none⟩∧ab<W.heap.size∧
  W.cell? ⟨ab,ao+i*9,none⟩=some (.int .i64 kd)∧W.cell? ⟨ab,ao+i*9+1,none⟩=some (.int .i64 n)∧W.cell? ⟨ab,ao+i*9+2,none⟩=some (.int .i64 m)∧W.cell? ⟨ab,ao+i*9+3,none⟩=some (.int .u64 word)∧W.cell? ⟨ab,ao+i*9+4,none⟩=some (.bool deep)∧W.cell? ⟨ab,ao+i*9+5,none⟩=some (.slice la ln lc)∧W.cell? ⟨ab,ao+i*9+6,none⟩=some (.slice qa qn qc)∧W.cell? ⟨ab,ao+i*9+7,none⟩=some (.int .i64 p0)∧W.cell? ⟨ab,ao+i*9+8,none⟩=some (.int .i64 p1)∧
  Hid (#[.int .i64 kd,.int .i64 n,.int .i64 m,.int .u64 word,.bool deep,.slice la ln lc,.slice qa qn qc,.int .i64 p0,.int .i64 p1]=(N i).cells∧word=(N i).word):=by
 obtain⟨ab,ao,haa,hab,hcell⟩:=h.at_ hF hi;exact⟨ab,ao,(N i).kind,(N i).n,(N i).m,(N i).word,(N i).deep,(N i).sl.a,(N i).sl.n,(N i).sl.cap,(N i).sq.a,(N i).sq.n,(N i).sq.cap,(N i).p0,(N i).p1,haa,hab,hcell 0 _ rfl,hcell 1 _ rfl,hcell 2 _ rfl,hcell 3 _ rfl,hcell 4 _ rfl,hcell 5 _ rfl,hcell 6 _ rfl,hcell 7 _ rfl,hcell 8 _ rfl,Lib.hid ⟨rfl,rfl⟩⟩
end
end Go.Proofs.YtghkahcogphomaaGreat
