/- Fibers: a part of the walk. No condition. -/
import Derived.Test.YtghkahcogphomaaGreatQk36
set_option linter.all false
namespace Go.Proofs.YtghkahcogphomaaGreat
section
open Go.ChangeShapes Go.WideShapes Go.RowKit
variable{w w':World}{X X':List Nat}{s t:SV}{L:List BV}{x y:BV}{k:PK}{p:PF}{l:List PF}
def Fit(k:PK):Prop:=k.fs.length≤1000000∧∀p,p∈k.fs→p.fr.length≤100000000∧∀f,f∈p.fr→f.slots.length≤240∧f.words.length≤240
theorem md_top(h:MdR X w s t k)(hk:k.fs=p::l): ∃(L:List BV) (x:BV),L.map BV.p=l.reverse∧x.p=p∧BsR X w s (L++[x])∧L.length=l.length:=by
 obtain⟨M,h1,h2⟩:=h.f;rw[hk,List.reverse_cons]at h1;obtain⟨L,M',rfl,h3,h4⟩:=List.map_eq_append_iff.1 h1;obtain⟨x,M'',rfl,h5,h6⟩:=List.map_eq_cons_iff.1 h4;rw[List.map_eq_nil_iff]at h6;subst h6;exact⟨L,x,h3,h5,h2,by have:=congrArg List.length h3;simpa using this⟩
theorem Chg.md{p':PF}{a:Option Addr}{n c:Nat}(hc:Chg X w L p' a n c w')(h:MdR X w s t k)(hL:L.map BV.p=l.reverse):MdR X w' ⟨a,n,c⟩ t ⟨p'::l,k.tk⟩∧Fr [] w w':=by
 obtain⟨hF,x',hx,hb⟩:=hc;refine⟨⟨⟨L++[x'], ?_,hb⟩,(h.fr hF (by simp)).t⟩,hF⟩;rw[List.map_append,hL];simp[hx]
theorem fit_sz(hf:Fit k)(hk:k.fs=p::l)(hx:x.Ok X w)(hp:x.p=p):SzF x:=by
 obtain⟨h1,h2⟩:=hf.2 p (by rw[hk];simp);have he:=hx.e;rw[hp]at he;refine⟨?_,fun z hz=> ?_⟩
 ·have:=congrArg List.length he;simp at this;omega
 ·have hm:z.f∈p.fr:=by
   have:z.f∈x.F.map FV.f:=List.mem_map.2 ⟨z,hz,rfl⟩;rw[he]at this;simpa using this
  obtain⟨q1,q2⟩:=h2 _ hm;exact⟨by omega,by omega⟩
theorem top_fr(hx:x.Ok X w){f:Frm}{r:List Frm}(hp:x.p.fr=f::r): ∃Z z,x.F=Z++[z]∧z.f=f∧z.Ok X w:=by
 have he:=hx.e;rw[hp,List.reverse_cons]at he;obtain⟨Z,M',h0,h3,h4⟩:=List.map_eq_append_iff.1 he;obtain⟨z,M'',rfl,h5,h6⟩:=List.map_eq_cons_iff.1 h4;rw[List.map_eq_nil_iff]at h6;subst h6;exact⟨Z,z,h0,h5,hx.f.2 z (by rw[h0];simp)⟩
theorem cf_at(h:BsR X w s (L++[x]))(hX: ∀z,z∈X→z<w.heap.size)(hm:L.length≤1000000):Hid (∀W,Fr [] w W→Calls Tryz.prog 55 #[.agg #[.slice s.a s.n s.cap,.slice t.a t.n t.cap]] W fun e w'=>e=.returned (.int .i64 (x.F.length:Int))∧Fr [] W w'):=Lib.hid (fun W hF=>by
 have:=r20Frames_c W t (h.fr hF (by simp)) (fun g hg=>Nat.lt_of_lt_of_le (hX g hg) hF.size) hm;rw[(h.2 x (by simp)).f.1.ne]at this;exact this)
theorem cu_at(h:BsR X w s (L++[x]))(hm:L.length≤1000000){Z:List FV}{z:FV}(hz:x.F=Z++[z])(hj:Z.length≤100000000):Hid (∀W,Fr [] w W→Calls Tryz.prog 53 #[.agg #[.slice s.a s.n s.cap,.slice t.a t.n t.cap]] W fun e w'=>e=.returned (.agg #[.int .u64 z.f.cl,.int .i64 z.f.pc,.int .i64 (z.f.room:Int),.slice z.s.a z.s.n z.s.cap,.slice z.q.a z.q.n z.q.cap])∧Fr [] W w'):=Lib.hid (fun W hF=>r20Current_yes W t (h.fr hF (by simp)) hz hm hj)
theorem cu_none(h:BsR X w s (L++[x]))(hm:L.length≤1000000)(hz:x.F=[]):Hid (∀W,Fr [] w W→Calls Tryz.prog 53 #[.agg #[.slice s.a s.n s.cap,.slice t.a t.n t.cap]] W fun e w'=>e=.returned (.agg #[.int .u64 45,.int .i64 0,.int .i64 0,.slice none 0 0,.slice none 0 0])∧Fr [] W w'):=Lib.hid (fun W hF=>r20Current_no W t (h.fr hF (by simp)) (by rw[(h.2 x (by simp)).f.1.ne,hz];rfl) hm)
theorem no_fr(hx:x.Ok X w)(hp:x.p.fr=[]):x.F=[]:=by
 have:=hx.e;rw[hp]at this;simpa using this
theorem doc_setpc(w:World)(n:Int)(h:MdR X w s t k)(hX: ∀z,z∈X→z<w.heap.size)(hf:Fit k)(hk:k.fs=p::l):
 Calls Tryz.prog 26 #[.agg #[.slice s.a s.n s.cap,.slice t.a t.n t.cap],.int .i64 n] w fun e w'=> ∃s':SV,e=.returned (.agg #[.slice s'.a s'.n s'.cap,.slice t.a t.n t.cap])∧MdR X w' s' t ((topM (setpcP n) k).getD k)∧Fr [] w w':=by
 obtain⟨L,x,hL,hp,hb,hll⟩:=md_top h hk;have hx:=hb.2 x (by simp);have hs:=fit_sz hf hk hx hp;have hm:L.length≤1000000:=by have:=hf.1;rw[hk]at this;simp at this;omega
 have CF:=cf_at (t:=t) hb hX hm;cases hfr:p.fr with
 |nil=>
  rw[no_fr hx (by rw[hp];exact hfr)]at CF;refine(setpc_no w n _ _ _ _ _ _ CF).mono ?_;rintro e w' ⟨rfl,hF⟩;refine⟨s,rfl, ?_,hF⟩;have:topM (setpcP n) k=none:=by simp[topM,hk,setpcP,hfr]
  rw[this];exact h.keep hF
 |cons f r=>
  obtain⟨Z,z,hz,hzf,hzo⟩:=top_fr hx (by rw[hp];exact hfr);have hj:Z.length≤100000000:=by have:=hs.1;rw[hz]at this;simp at this;omega
  have CH:=Lib.hid (fun(W:World) (hF:Fr [] w W) (hl:w.heap.size+1<W.heap.size)=>change_at (t:=t) hb (by rw[hz];simp) hX hm hs (w.heap.size+1) (by omega) W ⟨{ z.f with pc:=n },z.s,z.q⟩ hF hl ((hzo.blocks (X':=(w.heap.size+1)::X) (fun y hy=>by
   rcases List.mem_cons.1 hy with rfl|hy
   ·right;omega
   ·exact .inl hy)).fr hF (by simp)))
  refine(setpc_yes w n _ _ _ _ _ _ _ _ _ _ _ _ _ _ _ _ (by rw[hz];simp) CF (cu_at (t:=t) hb hm hz hj) CH).mono ?_;rintro e w' ⟨a',n',c',rfl,hc⟩;obtain⟨hmd,hF⟩:=hc.md h hL;refine⟨⟨a',n',c'⟩,rfl, ?_,hF⟩;have:topM (setpcP n) k=some ⟨⟨{ z.f with pc:=n }::x.p.fr.tail,x.p.h⟩::l,k.tk⟩:=by simp[topM,hk,setpcP,hfr,hp,hzf]
  rw[this];exact hmd
def CpJ(X:List Nat)(F:List FV)(cs:List Value)(W:World):Prop:= ∃Z:List FV,cs=Z.flatMap FV.cells∧Z.length=F.length∧Z.map FV.f=F.map FV.f∧∀z,z∈Z→z.Ok X W
theorem ct_at(h:BsR X w s (L++[x]))(hm:L.length≤1000000):Hid (∀W,Fr [] w W→Calls Tryz.prog 76 #[.agg #[.slice s.a s.n s.cap,.slice t.a t.n t.cap]] W fun e w'=>e=.returned (.agg #[.slice x.fr.a x.F.length x.fr.cap,.bool x.p.h.isSome,.bool x.deep,.int .u64 x.ret,.slice x.l.a x.l.n x.l.cap,.slice x.q.a x.q.n x.q.cap])∧Fr [] W w'):=Lib.hid (fun W hF=>by
 have:=r20top_c W t (h.fr hF (by simp)) hm;unfold BV.val at this;rw[(h.2 x (by simp)).f.1.ne]at this;exact this)
theorem cons_m{rb:Nat}(hrb:w.heap.size≤rb): ∀z,z∈rb::X→z∈X∨w.heap.size≤z:=by
 intro z hz;rcases List.mem_cons.1 hz with rfl|hz
 ·exact .inr hrb
 ·exact .inl hz
theorem cons_b{rb:Nat}{W:World}(hX: ∀z,z∈X→z<w.heap.size)(hF:Fr [] w W)(hl:rb<W.heap.size): ∀z,z∈rb::X→z<W.heap.size:=by
 intro z hz;rcases List.mem_cons.1 hz with rfl|hz
 ·exact hl
 ·exact Nat.lt_of_lt_of_le (hX z hz) hF.size
theorem cc_at(h:BsR X w s (L++[x]))(hX: ∀z,z∈X→z<w.heap.size)(hs:SzF x):Hid (∀W,Fr [] w W→w.heap.size+1<W.heap.size→Calls Tryz.prog 75 #[.agg #[.slice x.fr.a x.F.length x.fr.cap,.bool x.p.h.isSome,.bool x.deep,.int .u64 x.ret,.slice x.l.a x.l.n x.l.cap,.slice x.q.a x.q.n x.q.cap]] W fun e w'=> ∃(g c:Nat) (cs:List Value),e=.returned (.agg #[.slice (some ⟨g,0,none⟩) x.F.length c,.bool x.p.h.isSome,.bool x.deep,.int .u64 x.ret,.slice x.l.a x.l.n x.l.cap,.slice x.q.a x.q.n x.q.cap])∧Hid (w'.ownsRow W.heap.size 100 5 (.slice (some ⟨g,0,none⟩) x.F.length c) x.F.length cs)∧Hid (∀W',Fr [g] w' W'→CpJ ((w.heap.size+1)::X) x.F cs W')∧Hid (Fr [] W w')):=Lib.hid (fun W hF hl=>by
 have hx:=h.2 x (by simp);have:=r20Copy_c (X:=(w.heap.size+1)::X) W x ((hx.blocks (cons_m (by omega))).fr hF (by simp)) (cons_b hX hF hl) hs.1 hs.2;unfold BV.val at this;rw[hx.f.1.ne]at this;refine this.mono ?_;rintro e w' ⟨g,c,Z,rfl,h1,h2,h3,h4,h5⟩;refine⟨g,c,Z.flatMap FV.cells,rfl,Lib.hid h3,Lib.hid fun W' hW'=>⟨Z,rfl,h1,by rw[h2,List.take_length],fun z hz=>((h4 z hz).fr hW' (by simp)).blocks (fun y hy=> .inl (by simp[hy]))⟩,Lib.hid h5⟩)
theorem with_at(h:BsR X w s (L++[x]))(hX: ∀z,z∈X→z<w.heap.size)(hm:L.length≤1000000)(rb:Nat)(hrb:w.heap.size≤rb)(W:World)(hF:Fr [] w W)(hl:rb<W.heap.size)(Z:List FV)(a:Option Addr)(n c:Nat)(fr:List Frm)(he:Z.map FV.f=fr.reverse)(hfs:FsR (rb::X) W ⟨a,n,c⟩ Z):
 Calls Tryz.prog 77 #[.agg #[.slice s.a s.n s.cap,.slice t.a t.n t.cap],.agg #[.slice a n c,.bool x.p.h.isSome,.bool x.deep,.int .u64 x.ret,.slice x.l.a x.l.n x.l.cap,.slice x.q.a x.q.n x.q.cap]] W fun e w'=> ∃(a':Option Addr) (n' c':Nat),e=.returned (.agg #[.slice a' n' c',.slice t.a t.n t.cap])∧Hid (∀W',Fr [rb] w' W'→Chg X w L ⟨fr,x.p.h⟩ a' n' c' W')∧Hid (Fr [] W w'):=by
 have hx:=h.2 x (by simp);have hok:BV.Ok (rb::X) W ⟨⟨fr,x.p.h⟩,Z,⟨a,n,c⟩,x.l,x.q⟩:=⟨he,hfs,(hx.h.blocks (cons_m hrb)).fr hF (by simp)⟩;refine(r20with_c (X:=rb::X) W t ((h.blocks (cons_m hrb)).fr hF (by simp)) hok (cons_b hX hF hl) hm).mono ?_;rintro e w' ⟨s',rfl,hb,hF'⟩;exact⟨s'.a,s'.n,s'.cap,rfl,Lib.hid fun W' hW'=>⟨(hF.trans hF' (by simp)).trans hW' (fun y hy=> .inr (by simp at hy;omega)),_,rfl,(hb.fr hW' (by simp)).blocks (fun y hy=> .inl (by simp[hy]))⟩,Lib.hid hF'⟩
def MdOut(X:List Nat)(w:World)(t:SV)(k:PK)(k':Option PK)(e:Ending)(w':World):Prop:= ∃s':SV,e=.returned (.tuple #[.agg #[.slice s'.a s'.n s'.cap,.slice t.a t.n t.cap],.bool k'.isSome])∧MdR X w' s' t (k'.getD k)∧Fr [] w w'
theorem doc_pop(w:World)(h:MdR X w s t k)(hX: ∀z,z∈X→z<w.heap.size)(hf:Fit k)(hk:k.fs=p::l):
 Calls Tryz.prog 23 #[.agg #[.slice s.a s.n s.cap,.slice t.a t.n t.cap]] w (MdOut X w t k (topM popP k)):=by
 obtain⟨L,x,hL,hp,hb,hll⟩:=md_top h hk;have hx:=hb.2 x (by simp);have hs:=fit_sz hf hk hx hp;have hm:L.length≤1000000:=by have:=hf.1;rw[hk]at this;simp at this;omega
 have CT:=ct_at (t:=t) hb hm;have CC:=cc_at hb hX hs;cases hfr:p.fr with
 |nil=>
  have h0:=no_fr hx (by rw[hp];exact hfr);refine(mpop_no w _ _ _ _ _ _ _ _ _ _ _ _ _ _ _ _ _ _ CT CC (by rw[h0];rfl)).mono ?_;rintro e w' ⟨rfl,hF⟩;have:topM popP k=none:=by simp[topM,hk,popP,hfr]
  rw[this];exact⟨s,rfl,h.keep hF,hF⟩
 |cons f r=>
  obtain⟨Z0,z,hz,hzf,hzo⟩:=top_fr hx (by rw[hp];exact hfr);have hj:Z0.length≤100000000:=by have:=hs.1;rw[hz]at this;simp at this;omega
  have CW:=Lib.hid (fun(W:World) (g c:Nat) (cs:List Value) (hF:Fr [] w W) (hl:w.heap.size+1<W.heap.size) (ho:W.ownsRow (w.heap.size+1+1) 100 5 (.slice (some ⟨g,0,none⟩) (Z0.length+1) c) (Z0.length+1) cs) (hJ:CpJ ((w.heap.size+1)::X) x.F cs W)=>by
   obtain⟨Z,rfl,h1,h2,h3⟩:=hJ;rw[hz]at h1 h2;obtain⟨Z',y,rfl⟩: ∃Z' y,Z=Z'++[y]:=⟨Z.dropLast,Z.getLast (by intro hc;rw[hc]at h1;simp at h1),(List.dropLast_concat_getLast _).symm⟩;have h1':Z'.length=Z0.length:=by simpa using h1
   have he:Z'.map FV.f=x.p.fr.tail.reverse:=by
    have h5:(Z'++[y]).map FV.f=x.p.fr.reverse:=by rw[h2,←hz];exact hx.e
    have:=congrArg List.dropLast h5;simpa using this
   refine with_at (t:=t) hb hX hm (w.heap.size+1) (by omega) W hF hl Z' (some ⟨g,0,none⟩) Z0.length c x.p.fr.tail he ⟨?_,fun q hq=>h3 q (by simp[hq])⟩
   have hr:=Rd.of_own (X:=(w.heap.size+1)::X) ho (zl _ FV.one _) (fun q hq=>by
    rcases List.mem_cons.1 hq with rfl|hq
    ·omega
    ·have:=hX q hq;omega)
   have ht:=hr.take Z0.length (by omega);rw[h1']
   have e2:((Z'++[y]).flatMap FV.cells).take (Z0.length*5)=Z'.flatMap FV.cells:=by
    rw[List.flatMap_append,List.take_left' (by rw[flat_len _ 5 FV.len,h1'])]
   rw[e2]at ht;exact ht)
  refine(mpop_yes w Z0.length _ _ _ _ _ _ _ _ _ _ _ _ _ _ _ _ _ _ CT CC (by rw[hz];simp) hj CW).mono ?_;rintro e w' ⟨a',n',c',rfl,hc⟩;obtain⟨hmd,hF⟩:=hc.md h hL;have:topM popP k=some ⟨⟨x.p.fr.tail,x.p.h⟩::l,k.tk⟩:=by simp[topM,hk,popP,hfr,hp]
  rw[this];exact⟨⟨a',n',c'⟩,rfl,hmd,hF⟩
theorem doc_setslot(w:World)(i v:Int)(h:MdR X w s t k)(hX: ∀z,z∈X→z<w.heap.size)(hf:Fit k)(hk:k.fs=p::l):
 Calls Tryz.prog 27 #[.agg #[.slice s.a s.n s.cap,.slice t.a t.n t.cap],.int .i64 i,.int .u64 v] w (MdOut X w t k (topM (zp i v) k)):=by
 obtain⟨L,x,hL,hp,hb,hll⟩:=md_top h hk;have hx:=hb.2 x (by simp);have hs:=fit_sz hf hk hx hp;have hm:L.length≤1000000:=by have:=hf.1;rw[hk]at this;simp at this;omega
 cases hfr:p.fr with
 |nil=>
  refine(setslot_no w i v _ _ _ _ _ _ _ _ _ _ _ _ _ _ _ (cu_none (t:=t) hb hm (no_fr hx (by rw[hp];exact hfr))) (by omega)).mono ?_;rintro e w' ⟨rfl,hF⟩;have:topM (zp i v) k=none:=by simp[topM,hk,zp,hfr]
  rw[this];exact⟨s,rfl,h.keep hF,hF⟩
 |cons f r=>
  obtain⟨Z,z,hz,hzf,hzo⟩:=top_fr hx (by rw[hp];exact hfr);have hj:Z.length≤100000000:=by have:=hs.1;rw[hz]at this;simp at this;omega
  have hsn:z.s.n=z.f.slots.length:=hzo.1.ne;by_cases hi:i<0∨(f.slots.length:Int)≤i
  ·refine(setslot_no w i v _ _ _ _ _ _ _ _ _ _ _ _ _ _ _ (cu_at (t:=t) hb hm hz hj) (by rw[hsn,hzf];exact hi)).mono ?_;rintro e w' ⟨rfl,hF⟩;have:topM (zp i v) k=none:=by simp[topM,hk,zp,hfr,hi]
   rw[this];exact⟨s,rfl,h.keep hF,hF⟩
  ·obtain⟨j,rfl⟩: ∃j:Nat,i=(j:Int):=⟨i.toNat,by omega⟩;have hjl:j<z.f.slots.length:=by rw[hzf];omega
   have hz1:z.s.n≤1000:=by rw[hsn];exact(hs.2 z (by rw[hz];simp)).1
   have CH:=Lib.hid (fun(W:World) (g c:Nat) (hF:Fr [] w W) (hl:w.heap.size+1<W.heap.size) (ho:W.ownsRow (w.heap.size+1+1) 28 1 (.slice (some ⟨g,0,none⟩) z.s.n c) z.s.n (zZ (z.f.slots.set j v)))=>change_at (t:=t) hb (by rw[hz];simp) hX hm hs (w.heap.size+1) (by omega) W ⟨⟨z.f.cl,z.f.pc,z.f.slots.set j v,z.f.words,z.f.room⟩,⟨some ⟨g,0,none⟩,z.s.n,c⟩,z.q⟩ hF hl ⟨by
    have:=Rd.of_own (X:=(w.heap.size+1)::X) ho (zz _) (fun q hq=>by
     rcases List.mem_cons.1 hq with rfl|hq
     ·omega
     ·have:=hX q hq;omega)
    unfold WsR;rw[List.length_set,←hsn];exact this,(Rd.blocks hzo.2 (cons_m (by omega))).fr hF (by simp)⟩)
   refine(setslot_yes (Q:=Chg X w L ⟨⟨z.f.cl,z.f.pc,z.f.slots.set j v,z.f.words,z.f.room⟩::x.p.fr.tail,x.p.h⟩) w j v z.f.slots _ _ _ _ _ _ _ _ _ _ _ _ _ _ _ (cu_at (t:=t) hb hm hz hj) (by omega) hz1 hsn (Lib.hid fun W hF=>Rd.news (Rd.fr (by have:=hzo.1;unfold WsR at this;rw[←hsn]at this;exact this) hF (by simp))) CH).mono ?_;rintro e w' ⟨a',n',c',rfl,hc⟩;obtain⟨hmd,hF⟩:=hc.md h hL
   have:topM (zp (j:Int) v) k=some ⟨⟨{ z.f with slots:=z.f.slots.set j v }::x.p.fr.tail,x.p.h⟩::l,k.tk⟩:=by
    unfold topM;rw[hk];simp only[zp,hfr];rw[if_neg hi];simp[hp,hfr,hzf]
   rw[this];exact⟨⟨a',n',c'⟩,rfl,hmd,hF⟩
theorem doc_put(w:World)(v:Int)(h:MdR X w s t k)(hX: ∀z,z∈X→z<w.heap.size)(hf:Fit k)(hk:k.fs=p::l):
 Calls Tryz.prog 29 #[.agg #[.slice s.a s.n s.cap,.slice t.a t.n t.cap],.int .u64 v] w (MdOut X w t k (topM (putP v) k)):=by
 obtain⟨L,x,hL,hp,hb,hll⟩:=md_top h hk;have hx:=hb.2 x (by simp);have hs:=fit_sz hf hk hx hp;have hm:L.length≤1000000:=by have:=hf.1;rw[hk]at this;simp at this;omega
 have CF:=cf_at (t:=t) hb hX hm;cases hfr:p.fr with
 |nil=>
  have h0:=no_fr hx (by rw[hp];exact hfr);refine(mput_no w v _ _ _ _ _ _ _ _ _ _ _ _ _ _ _ _ CF (cu_none (t:=t) hb hm h0) (by left;rw[h0];rfl)).mono ?_;rintro e w' ⟨rfl,hF⟩;have:topM (putP v) k=none:=by simp[topM,hk,putP,hfr]
  rw[this];exact⟨s,rfl,h.keep hF,hF⟩
 |cons f r=>
  obtain⟨Z,z,hz,hzf,hzo⟩:=top_fr hx (by rw[hp];exact hfr);have hj:Z.length≤100000000:=by have:=hs.1;rw[hz]at this;simp at this;omega
  have hsn:z.q.n=z.f.words.length:=hzo.2.ne;by_cases hi:f.room≤f.words.length
  ·refine(mput_no w v _ _ _ _ _ _ _ _ _ _ _ _ _ _ _ _ CF (cu_at (t:=t) hb hm hz hj) (by right;rw[hsn,hzf];omega)).mono ?_;rintro e w' ⟨rfl,hF⟩;have:topM (putP v) k=none:=by simp[topM,hk,putP,hfr,hi]
   rw[this];exact⟨s,rfl,h.keep hF,hF⟩
  ·have hz1:z.q.n≤1000:=by rw[hsn];exact(hs.2 z (by rw[hz];simp)).2
   have CH:=Lib.hid (fun(W:World) (g c:Nat) (hF:Fr [] w W) (hl:w.heap.size+1<W.heap.size) (ho:W.ownsRow (w.heap.size+1+1) 28 1 (.slice (some ⟨g,0,none⟩) (z.q.n+1) c) (z.q.n+1) (zZ (z.f.words++[v])))=>change_at (t:=t) hb (by rw[hz];simp) hX hm hs (w.heap.size+1) (by omega) W ⟨⟨z.f.cl,z.f.pc,z.f.slots,z.f.words++[v],z.f.room⟩,z.s,⟨some ⟨g,0,none⟩,z.q.n+1,c⟩⟩ hF hl ⟨(Rd.blocks hzo.1 (cons_m (by omega))).fr hF (by simp),by
    have:=Rd.of_own (X:=(w.heap.size+1)::X) ho (zz _) (fun q hq=>by
     rcases List.mem_cons.1 hq with rfl|hq
     ·omega
     ·have:=hX q hq;omega)
    unfold WsR;rw[List.length_append,List.length_singleton,←hsn];exact this⟩)
   refine(mput_yes (Q:=Chg X w L ⟨⟨z.f.cl,z.f.pc,z.f.slots,z.f.words++[v],z.f.room⟩::x.p.fr.tail,x.p.h⟩) w v z.f.words _ _ _ _ _ _ _ _ _ _ _ _ _ _ _ _ CF (cu_at (t:=t) hb hm hz hj) (by rw[hz];simp) (by rw[hsn,hzf];omega) hz1 hsn (Lib.hid fun W hF=>Rd.news (Rd.fr (by have:=hzo.2;unfold WsR at this;rw[←hsn]at this;exact this) hF (by simp))) CH).mono ?_;rintro e w' ⟨a',n',c',rfl,hc⟩;obtain⟨hmd,hF⟩:=hc.md h hL;have:topM (putP v) k=some ⟨⟨{ z.f with words:=z.f.words++[v]}::x.p.fr.tail,x.p.h⟩::l,k.tk⟩:=by simp[topM,hk,putP,hfr,hp,hzf,hi]
   rw[this];exact⟨⟨a',n',c'⟩,rfl,hmd,hF⟩
theorem doc_take(w:World)(h:MdR X w s t k)(hX: ∀z,z∈X→z<w.heap.size)(hf:Fit k)(hk:k.fs=p::l):
 Calls Tryz.prog 31 #[.agg #[.slice s.a s.n s.cap,.slice t.a t.n t.cap]] w fun e w'=> ∃s':SV,e=.returned (.tuple #[.agg #[.slice s'.a s'.n s'.cap,.slice t.a t.n t.cap],.int .u64 (lastW k)])∧MdR X w' s' t ((topM takeP k).getD k)∧Fr [] w w':=by
 obtain⟨L,x,hL,hp,hb,hll⟩:=md_top h hk;have hx:=hb.2 x (by simp);have hs:=fit_sz hf hk hx hp;have hm:L.length≤1000000:=by have:=hf.1;rw[hk]at this;simp at this;omega
 cases hfr:p.fr with
 |nil=>
  refine(mtake_no w _ _ _ _ _ _ _ _ _ _ _ _ _ _ _ (cu_none (t:=t) hb hm (no_fr hx (by rw[hp];exact hfr))) rfl).mono ?_;rintro e w' ⟨rfl,hF⟩;have h1:topM takeP k=none:=by simp[topM,hk,takeP,hfr]
  have h2:lastW k=45:=by simp[lastW,curP,hk,hfr]
  rw[h1,h2];exact⟨s,rfl,h.keep hF,hF⟩
 |cons f r=>
  obtain⟨Z,z,hz,hzf,hzo⟩:=top_fr hx (by rw[hp];exact hfr);have hj:Z.length≤100000000:=by have:=hs.1;rw[hz]at this;simp at this;omega
  have hsn:z.q.n=z.f.words.length:=hzo.2.ne;have CU:=cu_at (t:=t) hb hm hz hj;by_cases hi:f.words=[]
  ·refine(mtake_no w _ _ _ _ _ _ _ _ _ _ _ _ _ _ _ CU (by rw[hsn,hzf,hi];rfl)).mono ?_;rintro e w' ⟨rfl,hF⟩;have h1:topM takeP k=none:=by simp[topM,hk,takeP,hfr,hi]
   have h2:lastW k=45:=by simp[lastW,curP,hk,hfr,hi]
   rw[h1,h2];exact⟨s,rfl,h.keep hF,hF⟩
  ·obtain⟨ws,v,hw⟩: ∃ws v,z.f.words=ws++[v]:=⟨z.f.words.dropLast,z.f.words.getLast (by rw[hzf];exact hi),(List.dropLast_concat_getLast _).symm⟩;have hq:=hzo.2;unfold WsR at hq;rw[hw]at hq hsn;have hwl:ws.length≤1000:=by have:=(hs.2 z (by rw[hz];simp)).2;rw[hw]at this;simp at this;omega
   obtain⟨yg,yo,e1,e2,e3⟩:=Rd.cell hq (i:=ws.length) (u:=.int .u64 v) (by unfold zZ;simp);have hcp:=hq.cp;have hn:z.q.n=ws.length+1:=by rw[hsn];simp
   rw[e1,hn]at CU;rw[hn]at hcp
   have CH:=Lib.hid (fun(W:World) (hF:Fr [] w W) (hl:w.heap.size+1<W.heap.size)=>change_at (t:=t) hb (by rw[hz];simp) hX hm hs (w.heap.size+1) (by omega) W ⟨⟨z.f.cl,z.f.pc,z.f.slots,ws,z.f.room⟩,z.s,⟨some ⟨yg,yo,none⟩,ws.length,z.q.cap⟩⟩ hF hl ⟨(Rd.blocks hzo.1 (cons_m (by omega))).fr hF (by simp),by
    have h5:=(hq.take ws.length (by simp)).blocks (X':=(w.heap.size+1)::X) (cons_m (by omega));have h6:=h5.fr hF (S:=[]) (by simp);rw[e1]at h6;unfold WsR;rw[show(zZ (ws++[v])).take (ws.length*1)=zZ ws by simp[zZ]]at h6;exact h6⟩)
   refine(mtake_yes (Q:=Chg X w L ⟨⟨z.f.cl,z.f.pc,z.f.slots,ws,z.f.room⟩::x.p.fr.tail,x.p.h⟩) w ws.length yg yo v _ _ _ _ _ _ _ _ _ _ _ _ _ CU hcp.1 hcp.2 hwl (Lib.hid fun W hF=>⟨zd e2 hF (by simp),e3⟩) CH).mono ?_;rintro e w' ⟨a',n',c',rfl,hc⟩;obtain⟨hmd,hF⟩:=hc.md h hL
   have h1:topM takeP k=some ⟨⟨⟨z.f.cl,z.f.pc,z.f.slots,ws,z.f.room⟩::x.p.fr.tail,x.p.h⟩::l,k.tk⟩:=by
    unfold topM;rw[hk];simp only[takeP,hfr];rw[if_neg hi];have:f.words.dropLast=ws:=by rw[←hzf,hw];simp
    simp[hp,hfr,hzf,this]
   have h2:lastW k=v:=by
    have:f.words=ws++[v]:=by rw[←hzf,hw]
    simp[lastW,curP,hk,hfr,this]
   rw[h1,h2];exact⟨⟨a',n',c'⟩,rfl,hmd,hF⟩
theorem Rd.of_row{B:Nat}{T:TypeId}{n size:Nat}{a:Option Addr}{c:Nat}{cs:List Value}(h:w.ownsRow B T size (.slice a n c) n cs)(h1: ∀u,u∈cs→u.oneCell'=true)(hX: ∀x,x∈X→x<B):Rd X w ⟨a,n,c⟩ n size cs:=by
 rcases h.2 with⟨hv,h0⟩|⟨g,cap,cur,hv,_⟩
 ·injection hv with q1 q2 q3
  subst q1 q2 q3;have:=h.1;simp at this;subst this;exact Rd.nil
 ·injection hv with q1 q2 q3
  subst q1 q3;exact Rd.of_own h h1 hX
theorem doc_push(w:World)(cl sl wd:Int)(h63: -9223372036854775808≤sl∧sl<9223372036854775808)(h:MdR X w s t k)(hX: ∀z,z∈X→z<w.heap.size)(hf:Fit k)(hk:k.fs=p::l):
 Calls Tryz.prog 21 #[.agg #[.slice s.a s.n s.cap,.slice t.a t.n t.cap],.int .u64 cl,.int .i64 sl,.int .i64 wd] w (MdOut X w t k (topM (pushP cl sl wd) k)):=by
 obtain⟨L,x,hL,hp,hb,hll⟩:=md_top h hk;have hx:=hb.2 x (by simp);have hs:=fit_sz hf hk hx hp;have hm:L.length≤1000000:=by have:=hf.1;rw[hk]at this;simp at this;omega
 by_cases hi:sl<0∨wd<0∨180<sl∨180-sl<wd
 ·refine(mpush_no w cl sl wd _ _ _ _ _ _ h63 hi).mono ?_;rintro e w' ⟨rfl,hF⟩
  have:topM (pushP cl sl wd) k=none:=by
   unfold topM;rw[hk];simp only[pushP];rw[if_pos hi];rfl
  rw[this];exact⟨s,rfl,h.keep hF,hF⟩
 ·obtain⟨S,rfl⟩: ∃S:Nat,sl=(S:Int):=⟨sl.toNat,by omega⟩;obtain⟨R,rfl⟩: ∃R:Nat,wd=(R:Int):=⟨wd.toNat,by omega⟩
  have CW:=Lib.hid (fun(W:World) (g c:Nat) (cs:List Value) (q:Option Addr) (q9:Nat) (hF:Fr [] w W) (hl:w.heap.size+1<W.heap.size) (ho:W.ownsRow (w.heap.size+1+1) 100 5 (.slice (some ⟨g,0,none⟩) (x.F.length+1) c) (x.F.length+1) (cs++[.int .u64 cl,.int .i64 0,.int .i64 (R:Int),.slice q S q9,.slice none 0 0])) (hq:W.ownsRow (w.heap.size+1+1) 28 1 (.slice q S q9) S (zZ (List.replicate S 29))) (hJ:CpJ ((w.heap.size+1)::X) x.F cs W)=>by
   obtain⟨Z,rfl,h1,h2,h3⟩:=hJ
   have hX2: ∀q,q∈(w.heap.size+1)::X→q<w.heap.size+1+1:=fun q hq=>by
    rcases List.mem_cons.1 hq with rfl|hq
    ·omega
    ·have:=hX q hq;omega
   refine with_at (t:=t) hb hX hm (w.heap.size+1) (by omega) W hF hl (Z++[⟨⟨cl,0,List.replicate S 29,[],R⟩,⟨q,S,q9⟩,SV.none⟩]) (some ⟨g,0,none⟩) (x.F.length+1) c (⟨cl,0,List.replicate S 29,[],R⟩::x.p.fr) ?_ ⟨?_, ?_⟩
   ·rw[List.map_append,h2,hx.e]
    simp
   ·rw[List.length_append,h1]
    have:=Rd.of_own (X:=(w.heap.size+1)::X) ho (by
     intro u hu;rcases List.mem_append.1 hu with hu|hu
     ·exact zl _ FV.one _ u hu
     ·exact FV.one ⟨⟨cl,0,List.replicate S 29,[],R⟩,⟨q,S,q9⟩,SV.none⟩ u hu) hX2
    rw[List.flatMap_append];simpa[FV.cells,SV.v,SV.none]using this
   ·intro y hy;rcases List.mem_append.1 hy with hy|hy
    ·exact h3 y hy
    ·simp at hy;subst hy;refine⟨?_,WsR.nil⟩;unfold WsR;rw[List.length_replicate];exact Rd.of_row hq (zz _) hX2)
  refine(mpush_yes (Q:=Chg X w L ⟨⟨cl,0,List.replicate S 29,[],R⟩::x.p.fr,x.p.h⟩) w cl S R _ _ _ _ _ _ _ _ _ _ _ _ _ _ _ _ _ _ (ct_at (t:=t) hb hm) (cc_at hb hX hs) (by omega) (by omega) hs.1 CW).mono ?_;rintro e w' ⟨a',n',c',rfl,hc⟩;obtain⟨hmd,hF⟩:=hc.md h hL
  have:topM (pushP cl (S:Int) (R:Int)) k=some ⟨⟨⟨cl,0,List.replicate S 29,[],R⟩::x.p.fr,x.p.h⟩::l,k.tk⟩:=by
   unfold topM;rw[hk];simp only[pushP];rw[if_neg hi];simp[hp,Frm.fresh,mkW]
  rw[this];exact⟨⟨a',n',c'⟩,rfl,hmd,hF⟩
end
end Go.Proofs.YtghkahcogphomaaGreat
