/- Fibers: a part of the walk. No condition. -/
import Derived.Test.YtghkahcogphomaaGreatQk20
set_option linter.all false
namespace Go.Proofs.YtghkahcogphomaaGreat
section
variable{A A':Ar}{m:Nat}{M M' M'':Mem}{x y s prev below hand hd l0 b:Int}{cap:Nat}{f:Frm}{fs r0:List Frm}{fp fp' fq:List Int}
structure PH where
 deep:Bool
 ret:Int
 ls:List Int
 ps:List Int
structure PF where
 fr:List Frm
 h:Option PH
def Plain(x:Int):Prop:=W64 x∧x%8≠1
def Frm.Ok(f:Frm):Prop:=Plain f.cl∧(∀x,x∈f.slots→Plain x)∧∀x,x∈f.words→Plain x
def PH.Ok(h:PH):Prop:=Plain h.ret∧(∀x,x∈h.ls→Plain x)∧(∀x,x∈h.ps→Plain x)∧h.ls.length=h.ps.length∧h.ls.length≤20
def PF.Ok(p:PF):Prop:=(∀f,f∈p.fr→f.Ok)∧∀h,p.h=some h→h.Ok
def Kp8(M M':Mem):Prop:= ∀x o,M x=some o→o.kind=8→M' x=some o
theorem Kp8.trans(h:Kp8 M M')(h2:Kp8 M' M''):Kp8 M M'':=fun x o hx hk=>h2 x o (h x o hx hk) hk
theorem Off.k8(h:Off fp M M')(hf: ∀x,x∈fp→∀o,M x=some o→o.kind≠8):Kp8 M M':=fun x o hx hk=>h x o (fun hc=>hf x hc o hx hk) hx
theorem Off.k80(h:Off [] M M'):Kp8 M M':=h.k8 (fun _ hx=>by cases hx)
def Hdl(M:Mem)(x:Int)(h:PH):Prop:= ∃g,M x=some ⟨8,(2+(zipL h.ls h.ps h.ls.length).length:Nat),g⟩∧g 0=smW (if h.deep=true then 1 else 0)∧g 1=h.ret∧∀i:Nat,i<(zipL h.ls h.ps h.ls.length).length→g (2+i)=(zipL h.ls h.ps h.ls.length)[i]?.getD 0
def HdR(M:Mem)(hd:Int):Option PH→Prop
 |none=>hd=45
 |some h=>Hdl M hd h
theorem Hdl.k8{h:PH}(hh:Hdl M x h)(k:Kp8 M M'):Hdl M' x h:=by
 obtain⟨g,h1,h2⟩:=hh;exact⟨g,k _ _ h1 rfl,h2⟩
theorem HdR.k8{h:Option PH}(hh:HdR M hd h)(k:Kp8 M M'):HdR M' hd h:=by
 cases h with
 |none=>exact hh
 |some h=>exact Hdl.k8 hh k
inductive Low(M:Mem):Int→Int→List Frm→List Int→Prop
 |nil:Low M 45 (-1) [] []
 |cons {s prev l0:Int} {cap:Nat} {f:Frm} {fs rest:List Frm} {fp:List Int} (seg:Seg M s prev cap (enc l0 (f::fs))) (ok:fits cap (f::fs)) (low:Low M prev l0 rest fp) (out:s∉fp):Low M s (szL fs) (f::fs++rest) (s::fp)
theorem Low.off(h:Low M s b fs fp)(ho:Off fq M M')(hd: ∀x,x∈fp→x∉fq):Low M' s b fs fp:=by
 induction h with
 |nil=>exact .nil
 |cons seg ok low out ih=>exact .cons (seg.off ho (hd _ (by simp))) ok (ih (fun x hx=>hd x (by simp[hx]))) out
theorem Low.dom(h:Low M s b fs fp): ∀x,x∈fp→∃o,M x=some o∧o.kind=15:=by
 induction h with
 |nil=>simp
 |cons seg ok low out ih=>
  intro x hx;rcases List.mem_cons.1 hx with rfl|hx
  ·obtain⟨o,h1,_,h2⟩:=seg.obj;exact⟨o,h1,h2⟩
  ·exact ih x hx
theorem Low.nd(h:Low M s b fs fp):fp.Nodup:=by
 induction h with
 |nil=>simp
 |cons seg ok low out ih=>exact List.nodup_cons.2 ⟨out,ih⟩
theorem Low.e(h:Low M s b [] fp):s=45∧b= -1∧fp=[]:=by
 cases h;exact⟨rfl,rfl,rfl⟩
inductive Sgs(M:Mem):Int→Int→List Frm→List Int→Prop
 |bare:Sgs M 45 (-1) [] []
 |empty {s:Int} {cap:Nat} (seg:Seg M s 45 cap []) (pos:1≤cap):Sgs M s (-1) [] [s]
 |full {s b:Int} {f:Frm} {fs:List Frm} {fp:List Int} (low:Low M s b (f::fs) fp):Sgs M s b (f::fs) fp
theorem Sgs.off(h:Sgs M s b fs fp)(ho:Off fq M M')(hd: ∀x,x∈fp→x∉fq):Sgs M' s b fs fp:=by
 cases h with
 |bare=>exact .bare
 |empty seg pos=>exact .empty (seg.off ho (hd _ (by simp))) pos
 |full low=>exact .full (low.off ho hd)
theorem Sgs.dom(h:Sgs M s b fs fp): ∀x,x∈fp→∃o,M x=some o∧o.kind=15:=by
 cases h with
 |bare=>simp
 |empty seg=>
  intro x hx;rcases List.mem_cons.1 hx with rfl|hx
  ·obtain⟨o,h1,_,h2⟩:=seg.obj;exact⟨o,h1,h2⟩
  ·cases hx
 |full low=>exact low.dom
theorem Sgs.nd(h:Sgs M s b fs fp):fp.Nodup:=by
 cases h with
 |bare=>simp
 |empty=>simp
 |full low=>exact low.nd
structure RF(M:Mem)(x below:Int)(p:PF)(fp:List Int):Prop where
 ex: ∃s b hd fs,Fib M x below s b hd∧Sgs M s b p.fr fs∧HdR M hd p.h∧fp=x::fs∧x∉fs
 ok:p.Ok
variable{p p':PF}{l l':List PF}
theorem RF.off(h:RF M x below p fp)(ho:Off fq M M')(hk:Kp8 M M')(hd: ∀x,x∈fp→x∉fq):RF M' x below p fp:=by
 obtain⟨⟨s,b,hh,fs,h1,h2,h3,rfl,h5⟩,h6⟩:=h;exact⟨⟨s,b,hh,fs,h1.off ho (hd _ (by simp)),h2.off ho (fun z hz=>hd z (by simp[hz])),h3.k8 hk,rfl,h5⟩,h6⟩
theorem RF.dom(h:RF M x below p fp): ∀z,z∈fp→∃o,M z=some o∧o.kind≠8:=by
 obtain⟨⟨s,b,hh,fs,h1,h2,h3,rfl,h5⟩,_⟩:=h;intro z hz;rcases List.mem_cons.1 hz with rfl|hz
 ·obtain⟨o,h1,_,h2⟩:=h1.obj;exact⟨o,h1,by omega⟩
 ·obtain⟨o,h1,h2⟩:=h2.dom z hz;exact⟨o,h1,by omega⟩
theorem RF.nd(h:RF M x below p fp):fp.Nodup:=by
 obtain⟨⟨s,b,hh,fs,h1,h2,h3,rfl,h5⟩,_⟩:=h;exact List.nodup_cons.2 ⟨h5,h2.nd⟩
theorem RF.mem(h:RF M x below p fp):x∈fp:=by
 obtain⟨⟨s,b,hh,fs,h1,h2,h3,rfl,h5⟩,_⟩:=h
 simp
theorem RF.tag(h:RF M x below p fp)(hp:Hq A m M):x%8=1:=by
 obtain⟨⟨s,b,hh,fs,h1,_⟩,_⟩:=h;exact h1.tag hp
theorem RF.w(h:RF M x below p fp)(hp:Hq A m M):W64 x:=by
 obtain⟨⟨s,b,hh,fs,h1,_⟩,_⟩:=h;exact h1.w hp
theorem RF.blw(h:RF M x below p fp)(hp:Hq A m M):gtF A m x 0=below:=by
 obtain⟨⟨s,b,hh,fs,h1,_⟩,_⟩:=h;exact(h1.g hp).1
def RC(M:Mem)(e:Int):List PF→Int→List Int→Prop
 |[],x,fp=>x=e∧fp=[]
 |p::l,x,fp=> ∃y f1 f2,RF M x y p f1∧RC M e l y f2∧fp=f1++f2∧∀z,z∈f1→z∉f2
variable{e:Int}
theorem RC.off(ho:Off fq M M')(hk:Kp8 M M'): ∀{l:List PF} {x:Int} {fp:List Int},RC M e l x fp→(∀z,z∈fp→z∉fq)→RC M' e l x fp:=by
 intro l
 induction l with
 |nil=>intro x fp h _;exact h
 |cons p l ih=>
  rintro x fp ⟨y,f1,f2,h1,h2,rfl,h4⟩ hd;exact⟨y,f1,f2,h1.off ho hk (fun z hz=>hd z (by simp[hz])),ih h2 (fun z hz=>hd z (by simp[hz])),rfl,h4⟩
theorem RC.dom: ∀{l:List PF} {x:Int} {fp:List Int},RC M e l x fp→∀z,z∈fp→∃o,M z=some o∧o.kind≠8:=by
 intro l
 induction l with
 |nil=>rintro x fp ⟨_,rfl⟩ z hz;cases hz
 |cons p l ih=>
  rintro x fp ⟨y,f1,f2,h1,h2,rfl,h4⟩ z hz;rcases List.mem_append.1 hz with hz|hz
  ·exact h1.dom z hz
  ·exact ih h2 z hz
theorem RC.nd: ∀{l:List PF} {x:Int} {fp:List Int},RC M e l x fp→fp.Nodup:=by
 intro l
 induction l with
 |nil=>rintro x fp ⟨_,rfl⟩;simp
 |cons p l ih=>
  rintro x fp ⟨y,f1,f2,h1,h2,rfl,h4⟩;exact List.nodup_append.2 ⟨h1.nd,ih h2,fun a ha b hb hab=>h4 a ha (hab▸hb)⟩
theorem RC.app: ∀{l:List PF} {x:Int} {fp:List Int},RC M e (l++l') x fp↔∃y f1 f2,RC M y l x f1∧RC M e l' y f2∧fp=f1++f2∧∀z,z∈f1→z∉f2:=by
 intro l
 induction l with
 |nil=>
  intro x fp;constructor
  ·intro h;exact⟨x,[],fp,⟨rfl,rfl⟩,h,rfl,by simp⟩
  ·rintro⟨y,f1,f2,⟨rfl,rfl⟩,h,rfl,_⟩;exact h
 |cons p l ih=>
  intro x fp;constructor
  ·rintro⟨y,f1,f2,h1,h2,rfl,h4⟩;obtain⟨y2,g1,g2,k1,k2,rfl,k4⟩:=ih.1 h2;refine⟨y2,f1++g1,g2,⟨y,f1,g1,h1,k1,rfl,fun z hz hc=>h4 z hz (by simp[hc])⟩,k2,by simp, ?_⟩;intro z hz hc;rcases List.mem_append.1 hz with hz|hz
   ·exact h4 z hz (by simp[hc])
   ·exact k4 z hz hc
  ·rintro⟨y2,ff,g2,⟨y,f1,g1,h1,k1,rfl,h4⟩,k2,rfl,k4⟩;refine⟨y,f1,g1++g2,h1,ih.2 ⟨y2,g1,g2,k1,k2,rfl,fun z hz hc=>k4 z (by simp[hz]) hc⟩,by simp, ?_⟩;intro z hz hc;rcases List.mem_append.1 hc with hc|hc
   ·exact h4 z hz hc
   ·exact k4 z (by simp[hz]) hc
def Res(M:Mem)(x n hi lo:Int):Prop:= ∃g,M x=some ⟨6,3,g⟩∧g 0=smW n∧g 1=hi∧g 2=lo
theorem Res.off{n hi lo:Int}(h:Res M x n hi lo)(ho:Off fq M M')(hs:x∉fq):Res M' x n hi lo:=by
 obtain⟨g,h1,h2⟩:=h;exact⟨g,ho _ _ hs h1,h2⟩
theorem Res.obj{n hi lo:Int}(h:Res M x n hi lo): ∃o,M x=some o∧o.n=3∧o.kind=6:=by
 obtain⟨g,h1,_⟩:=h;exact⟨_,h1,rfl,rfl⟩
theorem Res.g{n hi lo:Int}(h:Res M x n hi lo)(hp:Hq A m M)(hn:0≤n∧n≤100):nmF A m x 0=n∧gtF A m x 1=hi∧gtF A m x 2=lo∧kdF A m x=6∧szF A m x=3:=by
 obtain⟨g,h1,h2,h3,h4⟩:=h;refine⟨?_, ?_, ?_,hp.kd h1,hp.sz h1⟩
 ·unfold nmF;rw[hp.gl h1 _ (by omega) (by omega),h2];exact smW_val (by omega) (by omega)
 ·rw[hp.gl h1 _ (by omega) (by omega),h3]
 ·rw[hp.gl h1 _ (by omega) (by omega),h4]
theorem Res.fresh{hi lo:Int}(h:Res M x 0 hi lo)(hp:Hq A m M):freshF A m x=0:=by
 have:=h.g hp (by omega);unfold freshF;rw[if_neg (by omega),if_neg (by omega)]
theorem Res.gone{hi lo:Int}(h:Res M x 1 hi lo)(hp:Hq A m M):freshF A m x=201:=by
 have:=h.g hp (by omega);unfold freshF;rw[if_neg (by omega),if_pos (by omega)]
theorem Res.ww{n hi lo:Int}(h:Res M x n hi lo)(hp:Hq A m M):W64 x:=by
 obtain⟨g,h1,_⟩:=h;exact hp.w h1
def RT(M:Mem):Option (List PF)→Int→List Int→Prop
 |none,r,fp=>Res M r 1 45 45∧fp=[r]
 |some l,r,fp=> ∃hi lo a p f1 f2,l=a++[p]∧Res M r 0 hi lo∧RC M lo a hi f1∧RF M lo 45 p f2∧fp=r::(f1++f2)∧r∉f1++f2∧∀z,z∈f1→z∉f2
theorem RT.off{t:Option (List PF)}(h:RT M t x fp)(ho:Off fq M M')(hk:Kp8 M M')(hd: ∀z,z∈fp→z∉fq):RT M' t x fp:=by
 cases t with
 |none=>
  obtain⟨h1,rfl⟩:=h;exact⟨h1.off ho (hd _ (by simp)),rfl⟩
 |some l=>
  obtain⟨hi,lo,a,p,f1,f2,h1,h2,h3,h4,rfl,h6⟩:=h;exact⟨hi,lo,a,p,f1,f2,h1,h2.off ho (hd _ (by simp)),RC.off ho hk h3 (fun z hz=>hd z (by simp[hz])),h4.off ho hk (fun z hz=>hd z (by simp[hz])),rfl,h6⟩
theorem RT.dom{t:Option (List PF)}(h:RT M t x fp): ∀z,z∈fp→∃o,M z=some o∧o.kind≠8:=by
 cases t with
 |none=>
  obtain⟨h1,rfl⟩:=h;intro z hz;rcases List.mem_cons.1 hz with rfl|hz
  ·obtain⟨o,h1,_,h2⟩:=h1.obj;exact⟨o,h1,by omega⟩
  ·cases hz
 |some l=>
  obtain⟨hi,lo,a,p,f1,f2,h1,h2,h3,h4,rfl,h6⟩:=h;intro z hz;rcases List.mem_cons.1 hz with rfl|hz
  ·obtain⟨o,h1,_,h2⟩:=h2.obj;exact⟨o,h1,by omega⟩
  ·rcases List.mem_append.1 hz with hz|hz
   ·exact RC.dom h3 z hz
   ·exact h4.dom z hz
theorem RT.nd{t:Option (List PF)}(h:RT M t x fp):fp.Nodup:=by
 cases t with
 |none=>obtain⟨h1,rfl⟩:=h;simp
 |some l=>
  obtain⟨hi,lo,a,p,f1,f2,h1,h2,h3,h4,rfl,h6,h7⟩:=h;exact List.nodup_cons.2 ⟨h6,List.nodup_append.2 ⟨RC.nd h3,h4.nd,fun a ha b hb hab=>h7 a ha (hab▸hb)⟩⟩
theorem RT.ww{t:Option (List PF)}(h:RT M t x fp)(hp:Hq A m M):W64 x∧x%8=1∧x∈fp:=by
 cases t with
 |none=>
  obtain⟨h1,rfl⟩:=h;obtain⟨o,h2,_⟩:=h1.obj;exact⟨hp.w h2,hp.tag h2,by simp⟩
 |some l=>
  obtain⟨hi,lo,a,p,f1,f2,h1,h2,h3,h4,rfl,h6⟩:=h;obtain⟨o,h2,_⟩:=h2.obj;exact⟨hp.w h2,hp.tag h2,by simp⟩
def RTs(M:Mem):List (Option (List PF))→List Int→List Int→Prop
 |[],rs,fp=>rs=[]∧fp=[]
 |t::ts,rs,fp=> ∃r rs' f1 f2,rs=r::rs'∧RT M t r f1∧RTs M ts rs' f2∧fp=f1++f2∧∀z,z∈f1→z∉f2
theorem RTs.off(ho:Off fq M M')(hk:Kp8 M M'): ∀{ts:List (Option (List PF))} {rs fp:List Int},RTs M ts rs fp→(∀z,z∈fp→z∉fq)→RTs M' ts rs fp:=by
 intro ts
 induction ts with
 |nil=>intro rs fp h _;exact h
 |cons t ts ih=>
  rintro rs fp ⟨r,rs',f1,f2,rfl,h1,h2,rfl,h4⟩ hd;exact⟨r,rs',f1,f2,rfl,h1.off ho hk (fun z hz=>hd z (by simp[hz])),ih h2 (fun z hz=>hd z (by simp[hz])),rfl,h4⟩
theorem RTs.dom: ∀{ts:List (Option (List PF))} {rs fp:List Int},RTs M ts rs fp→∀z,z∈fp→∃o,M z=some o∧o.kind≠8:=by
 intro ts
 induction ts with
 |nil=>rintro rs fp ⟨_,rfl⟩ z hz;cases hz
 |cons t ts ih=>
  rintro rs fp ⟨r,rs',f1,f2,rfl,h1,h2,rfl,h4⟩ z hz;rcases List.mem_append.1 hz with hz|hz
  ·exact h1.dom z hz
  ·exact ih h2 z hz
theorem RTs.len: ∀{ts:List (Option (List PF))} {rs fp:List Int},RTs M ts rs fp→rs.length=ts.length:=by
 intro ts
 induction ts with
 |nil=>rintro rs fp ⟨rfl,_⟩;rfl
 |cons t ts ih=>
  rintro rs fp ⟨r,rs',f1,f2,rfl,h1,h2,rfl,h4⟩;simp[ih h2]
theorem RTs.add{t:Option (List PF)}{r:Int}{f2:List Int}(h2:RT M t r f2): ∀{ts:List (Option (List PF))} {rs fp:List Int},RTs M ts rs fp→(∀z,z∈fp→z∉f2)→RTs M (ts++[t]) (rs++[r]) (fp++f2):=by
 intro ts
 induction ts with
 |nil=>
  rintro rs fp ⟨rfl,rfl⟩ _;exact⟨r,[],f2,[],rfl,h2,⟨rfl,rfl⟩,by simp,by simp⟩
 |cons t0 ts ih=>
  rintro rs fp ⟨r0,rs',g1,g2,rfl,k1,k2,rfl,k4⟩ hd;refine⟨r0,rs'++[r],g1,g2++f2,rfl,k1,ih k2 (fun z hz=>hd z (by simp[hz])),by simp, ?_⟩;intro z hz hc;rcases List.mem_append.1 hc with hc|hc
  ·exact k4 z hz hc
  ·exact hd z (by simp[hz]) hc
theorem RTs.at: ∀{ts:List (Option (List PF))} {rs fp:List Int} {i:Nat} {t:Option (List PF)},RTs M ts rs fp→ts[i]? =some t→
 ∃r f1,rs[i]? =some r∧RT M t r f1∧(∀z,z∈f1→z∈fp)∧
  ∀(M':Mem) (t':Option (List PF)) (f1' fq:List Int),RT M' t' r f1'→Off fq M M'→Kp8 M M'→(∀z,z∈fq→z∈fp→z∈f1)→(∀z,z∈f1'→z∈fp→z∈f1)→
   ∃fp',RTs M' (ts.set i t') rs fp'∧∀z,z∈fp'↔z∈f1'∨(z∈fp∧z∉f1):=by
 intro ts
 induction ts with
 |nil=>intro rs fp i t h hi;simp at hi
 |cons t0 ts ih=>
  rintro rs fp i t ⟨r0,rs',g1,g2,rfl,k1,k2,rfl,k4⟩ hi;cases i with
  |zero=>
   simp only[List.getElem?_cons_zero,Option.some.injEq]at hi;subst hi;refine⟨r0,g1,rfl,k1,fun z hz=>by simp[hz], ?_⟩;intro M' t' f1' fq h1 ho hk hq hf;have hd: ∀z,z∈g2→z∉fq:=fun z hz hc=>k4 z (hq z hc (by simp[hz])) hz
   refine⟨f1'++g2,⟨r0,rs',f1',g2,rfl,h1,RTs.off ho hk k2 hd,rfl,fun z hz hc=>k4 z (hf z hz (by simp[hc])) hc⟩, ?_⟩;intro z;simp only[List.mem_append];constructor
   ·rintro(h|h)
    ·exact .inl h
    ·exact .inr ⟨.inr h,fun hc=>k4 z hc h⟩
   ·rintro(h|⟨h|h,h2⟩)
    ·exact .inl h
    ·exact absurd h h2
    ·exact .inr h
  |succ i=>
   simp only[List.getElem?_cons_succ]at hi;obtain⟨r,f1,e1,e2,e3,e4⟩:=ih k2 hi;refine⟨r,f1,by simpa using e1,e2,fun z hz=>by simp[e3 z hz], ?_⟩;intro M' t' f1' fq h1 ho hk hq hf;obtain⟨fp',q1,q2⟩:=e4 M' t' f1' fq h1 ho hk (fun z a b=>hq z a (by simp[b])) (fun z a b=>hf z a (by simp[b]));have hd: ∀z,z∈g1→z∉fq:=fun z hz hc=>k4 z hz (e3 z (hq z hc (by simp[hz])))
   refine⟨g1++fp',⟨r0,rs',g1,fp',rfl,k1.off ho hk hd,q1,rfl, ?_⟩, ?_⟩
   ·intro z hz hc;rcases(q2 z).1 hc with hc|⟨hc,_⟩
    ·exact k4 z hz (e3 z (hf z hc (by simp[hz])))
    ·exact k4 z hz hc
   ·intro z;simp only[List.mem_append,q2 z];constructor
    ·rintro(h|h|⟨h,h2⟩)
     ·exact .inr ⟨.inl h,fun hc=>k4 z h (e3 z hc)⟩
     ·exact .inl h
     ·exact .inr ⟨.inr h,h2⟩
    ·rintro(h|⟨h|h,h2⟩)
     ·exact .inr (.inl h)
     ·exact .inl h
     ·exact .inr (.inr ⟨h,h2⟩)
structure PK where
 fs:List PF
 tk:List (Option (List PF))
structure Rep(M:Mem)(top:Int)(k:PK)(rs:List Int):Prop where
 ex: ∃f1 f2,RC M 45 k.fs top f1∧RTs M k.tk rs f2∧∀z,z∈f1→z∉f2
 ne:k.fs≠[]
theorem Rep.focus{top:Int}{p:PF}{l:List PF}{ts:List (Option (List PF))}{rs:List Int}(h:Rep M top ⟨p::l,ts⟩ rs):
 ∃y f1,RF M top y p f1∧
  ∀(M':Mem) (p':PF) (f1':List Int),RF M' top y p' f1'→Off f1 M M'→Kp8 M M'→(∀z,z∈f1'→z∈f1∨M z=none)→Rep M' top ⟨p'::l,ts⟩ rs:=by
 obtain⟨⟨g1,g2,⟨y,f1,f2,h1,h2,rfl,h4⟩,k2,k3⟩,_⟩:=h;refine⟨y,f1,h1, ?_⟩
 ·intro M' p' f1' h1' ho hk hf
  have hn: ∀z,z∈f1'→(z∈f2∨z∈g2)→z∈f1:=by
   intro z hz hc;rcases hf z hz with h|h
   ·exact h
   ·exfalso;rcases hc with hc|hc
    ·obtain⟨o,ho,_⟩:=RC.dom h2 z hc;rw[h]at ho;cases ho
    ·obtain⟨o,ho,_⟩:=RTs.dom k2 z hc;rw[h]at ho;cases ho
  refine⟨⟨f1'++f2,g2,⟨y,f1',f2,h1',RC.off ho hk h2 (fun z hz hc=>h4 z hc hz),rfl,fun z hz hc=>h4 z (hn z hz (.inl hc)) hc⟩,RTs.off ho hk k2 (fun z hz hc=>k3 z (by simp[hc]) hz), ?_⟩,by simp⟩;intro z hz hc;rcases List.mem_append.1 hz with hz|hz
  ·exact k3 z (by simp[hn z hz (.inr hc)]) hc
  ·exact k3 z (by simp[hz]) hc
end
section
variable{A A':Ar}{m:Nat}{M M' M'':Mem}{x y s prev below hand hd l0 b:Int}{cap:Nat}{f f':Frm}{fs r0 r:List Frm}{fp fp' fq:List Int}{p:PF}{h0:Option PH}
structure RV(M:Mem)(x y:Int)(f:Frm)(r:List Frm)(h0:Option PH)(fp:List Int)(s prev hd l0:Int)(cap:Nat)(fs rest:List Frm)(fpl:List Int):Prop where
 top:Top M x s prev y hd l0 cap (f::fs)
 low:Low M prev l0 rest fpl
 hr:HdR M hd h0
 er:r=fs++rest
 ef:fp=x::s::fpl
 n1:x∉fpl
 n2:s∉fpl
theorem RF.view{h0:Option PH}(h:RF M x y ⟨f::r,h0⟩ fp): ∃s prev hd l0 cap fs rest fpl,RV M x y f r h0 fp s prev hd l0 cap fs rest fpl:=by
 obtain⟨⟨s,b,hd,fq,h1,h2,h3,rfl,h5⟩,_⟩:=h;simp only at h2;cases h2 with
 |full low=>
  generalize hg:f::r=g at low;cases low with
  |nil=>cases hg
  |cons seg ok low out=>
   simp only[List.cons_append,List.cons.injEq]at hg;obtain⟨rfl,rfl⟩:=hg;exact⟨_,_,_,_,_,_,_,_,⟨h1,seg,ok⟩,low,h3,rfl,rfl,fun hc=>h5 (by simp[hc]),out⟩
variable{rest:List Frm}{fpl:List Int}
theorem RV.re(h:RV M x y f r h0 fp s prev hd l0 cap fs rest fpl)(ht:Top M' x s prev y hd l0 cap (f'::fs))(ho:Off [s,x] M M')(hk:Kp8 M M')(hok:PF.Ok ⟨f'::r,h0⟩):RF M' x y ⟨f'::r,h0⟩ fp:=by
 refine⟨⟨s,szL fs,hd,s::fpl,ht.fib, ?_,h.hr.k8 hk,h.ef, ?_⟩,hok⟩
 ·rw[h.er];refine .full (.cons ht.seg ht.ok (h.low.off ho ?_) h.n2);intro z hz hc;simp only[List.mem_cons,List.not_mem_nil,or_false]at hc;rcases hc with rfl|rfl
  ·exact h.n2 hz
  ·exact h.n1 hz
 ·simp only[List.mem_cons,not_or];exact⟨h.top.ne,h.n1⟩
theorem RV.k8(h:RV M x y f r h0 fp s prev hd l0 cap fs rest fpl)(ho:Off [s,x] M M'):Kp8 M M':=ho.k8 (by
 intro z hz o hzo;simp only[List.mem_cons,List.not_mem_nil,or_false]at hz;rcases hz with rfl|rfl
 ·obtain⟨o2,h1,_,h2⟩:=h.top.seg.obj;rw[h1]at hzo;injection hzo with hzo;subst hzo;omega
 ·obtain⟨o2,h1,_,h2⟩:=h.top.fib.obj;rw[h1]at hzo;injection hzo with hzo;subst hzo;omega)
theorem RV.in(h:RV M x y f r h0 fp s prev hd l0 cap fs rest fpl): ∀z,z∈[s,x]→z∈fp:=by
 intro z hz;rw[h.ef];simp only[List.mem_cons,List.not_mem_nil,or_false]at hz⊢;rcases hz with rfl|rfl<;>simp
theorem Off.s2(h:Off [s] M M'):Off [s,x] M M':=h.mono (by simp)
theorem RF.empty(h:RF M x y p fp)(hp:Hq A m M):noF A m x=p.fr.isEmpty∧emptyF A m x=p.fr.isEmpty:=by
 have e:noF A m x=p.fr.isEmpty:=by
  obtain⟨fr,h0⟩:=p;cases fr with
  |nil=>
   obtain⟨⟨s,b,hd,fq,h1,h2,h3,rfl,h5⟩,_⟩:=h
   have hb:b= -1:=by
    simp only at h2;cases h2<;>rfl
   subst hb;unfold noF nmF;rw[(h1.g hp).2.2.1,smW_val (by omega) (by omega)];rfl
  |cons f r=>
   obtain⟨s,prev,hd,l0,cap,fs,rest,fpl,hv⟩:=h.view;exact hv.top.no hp
 exact⟨e,e⟩
theorem RF.frok(h:RF M x y p fp)(hp:Hq A m M):FrOk A m x:=by
 obtain⟨fr,h0⟩:=p;cases fr with
 |nil=>
  have:=(h.empty hp).1;unfold noF at this;simp only[List.isEmpty_nil,beq_iff_eq]at this;exact⟨by omega,by omega,fun hc=>absurd this hc,fun hc=>absurd this hc,fun hc=>absurd this hc⟩
 |cons f r=>
  obtain⟨s,prev,hd,l0,cap,fs,rest,fpl,hv⟩:=h.view;exact hv.top.frok hp
theorem HdR.tag{h:Option PH}(hh:HdR M hd h)(hp:Hq A m M):(hd%8==1)=h.isSome:=by
 cases h with
 |none=>rw[show hd=45 from hh];rfl
 |some h=>
  obtain⟨g,h1,_⟩:=hh;rw[hp.tag h1];rfl
theorem RF.has(h:RF M x y p fp)(hp:Hq A m M):hasF A m x=p.h.isSome∧HdR M (gtF A m x 3) p.h:=by
 obtain⟨⟨s,b,hd,fq,h1,h2,h3,rfl,h5⟩,_⟩:=h;have:=(h1.g hp).2.2.2;unfold hasF;rw[this];exact⟨h3.tag hp,h3⟩
theorem RF.low(h:RF M x y p fp)(hp:Hq A m M):lowF A m x=(y%8 !=1):=by
 unfold lowF;rw[h.blw hp]
theorem RF.setpc{h0:Option PH}(h:RF M x y ⟨f::r,h0⟩ fp)(hp:Hq A m M)(n:Int)(n0: -1000000≤n)(n1:n≤1000000):
 ∃M',Hq (setpcF A m x n) m M'∧RF M' x y ⟨{ f with pc:=n }::r,h0⟩ fp∧Off fp M M'∧Kp8 M M':=by
 obtain⟨s,prev,hd,l0,cap,fs,rest,fpl,hv⟩:=h.view;obtain⟨M',h1,h2,h3⟩:=hv.top.setpc hp n n0 n1;have hk:=hv.k8 h3.s2
 exact⟨M',h1,hv.re h2 h3.s2 hk ⟨fun g hg=>(by
  rcases List.mem_cons.1 hg with rfl|hg
  ·exact h.ok.1 f (by simp)
  ·exact h.ok.1 g (by simp[hg])),h.ok.2⟩,h3.s2.mono hv.in,hk⟩
theorem enc_slot(l0:Int)(f:Frm)(r0:List Frm)(i:Nat)(hi:i<f.slots.length)(v:Int):(enc l0 (f::r0)).set (szL r0+5+i) v=enc l0 ({ f with slots:=f.slots.set i v }::r0):=by
 simp only[enc];rw[List.set_append_right _ _ (by rw[len_enc];omega),len_enc,show szL r0+5+i-szL r0=5+i by omega]
 congr 1
 unfold Frm.enc;rw[List.append_assoc,List.set_append_right _ _ (by simp),List.append_assoc];simp only[List.length_cons,List.length_nil,List.length_set];rw[List.set_append_left _ _ (by omega)]
 congr 2
 congr 1
 omega
theorem Top.setslot(h:Top M x s prev below hand l0 cap (f::r0))(hp:Hq A m M)(i:Nat)(hi:i<f.slots.length)(v:Int)(hv:W64 v):
 ∃M',Hq (stF A m s (2+nmF A m x 2+5+i) v) m M'∧Top M' x s prev below hand l0 cap ({ f with slots:=f.slots.set i v }::r0)∧Off [s] M M':=by
 have hz:=h.sz hp;obtain⟨o,ho,hn,_⟩:=h.seg.obj;rw[h.b hp];refine⟨_,hp.st ho (by omega) (by omega) hv,⟨?_, ?_, ?_⟩,Off.put _ _ _ _⟩
 ·exact h.fib.off (Off.put _ _ _ _) (by simpa using h.ne)
 ·have:=h.seg.put (i:=szL r0+5+i) (by rw[len_enc];simp only[szL];rw[h.len];omega) v;rw[enc_slot _ _ _ _ hi]at this;have e:(2:Int)+(szL r0:Int)+5+i=2+(szL r0+5+i:Nat):=by omega
  rw[e];exact this
 ·have:=h.ok;simp only[fits,List.length_set]at this⊢;exact this
theorem RF.slot{h0:Option PH}(h:RF M x y ⟨f::r,h0⟩ fp)(hp:Hq A m M)(i:Int):
 (slotF A m x i=none∧(i<0∨(f.slots.length:Int)≤i))∨∃k:Nat,i=k∧k<f.slots.length∧slotF A m x i=some (2+nmF A m x 2+5+k)∧gtF A m (gtF A m x 1) (2+nmF A m x 2+5+k)=f.slots[k]?.getD 0:=by
 obtain⟨s,prev,hd,l0,cap,fs,rest,fpl,hv⟩:=h.view;have e1:=(hv.top.fib.g hp).2.1;have e3:=hv.top.h3 hp;have b:=hv.top.b hp;unfold slotF slotsF;rw[hv.top.no hp,e1,b,e3];simp only[Bool.false_eq_true,if_false];by_cases hc:i<0∨(f.slots.length:Int)≤i
 ·rw[if_pos hc];exact .inl ⟨rfl,hc⟩
 ·rw[if_neg hc];obtain⟨k,rfl⟩: ∃k:Nat,i=k:=⟨i.toNat,by omega⟩;refine .inr ⟨k,rfl,by omega,rfl, ?_⟩;have:=hv.top.hd hp (5+k) (by rw[hv.top.len];omega);rw[Frm.at5 _ _ k (by omega)]at this;rw[←this]
  congr 1
  omega
theorem RF.setslot{h0:Option PH}(h:RF M x y ⟨f::r,h0⟩ fp)(hp:Hq A m M)(i:Nat)(hi:i<f.slots.length)(v:Int)(hv:Plain v):
 ∃M',Hq (stF A m (gtF A m x 1) (2+nmF A m x 2+5+i) v) m M'∧RF M' x y ⟨{ f with slots:=f.slots.set i v }::r,h0⟩ fp∧Off fp M M'∧Kp8 M M':=by
 obtain⟨s,prev,hd,l0,cap,fs,rest,fpl,hw⟩:=h.view;rw[(hw.top.fib.g hp).2.1];obtain⟨M',h1,h2,h3⟩:=hw.top.setslot hp i hi v hv.1;have hk:=hw.k8 h3.s2;refine⟨M',h1,hw.re h2 h3.s2 hk ⟨fun g hg=> ?_,h.ok.2⟩,h3.s2.mono hw.in,hk⟩;rcases List.mem_cons.1 hg with rfl|hg
 ·have:=h.ok.1 f (by simp);refine⟨this.1,fun z hz=> ?_,this.2.2⟩;rcases List.mem_or_eq_of_mem_set hz with hz|rfl
  ·exact this.2.1 z hz
  ·exact hv
 ·exact h.ok.1 g (by simp[hg])
theorem RF.put{h0:Option PH}(h:RF M x y ⟨f::r,h0⟩ fp)(hp:Hq A m M)(v:Int)(hv:Plain v)(hw:f.words.length<f.room):
 (putF A m x v).2=true∧∃M',Hq (putF A m x v).1 m M'∧RF M' x y ⟨{ f with words:=f.words++[v]}::r,h0⟩ fp∧Off fp M M'∧Kp8 M M':=by
 obtain⟨s,prev,hd,l0,cap,fs,rest,fpl,hr⟩:=h.view;obtain⟨e,M',h1,h2,h3⟩:=hr.top.put hp v hv.1 hw;have hk:=hr.k8 h3.s2;refine⟨e,M',h1,hr.re h2 h3.s2 hk ⟨fun g hg=> ?_,h.ok.2⟩,h3.s2.mono hr.in,hk⟩;rcases List.mem_cons.1 hg with rfl|hg
 ·have:=h.ok.1 f (by simp);refine⟨this.1,this.2.1,fun z hz=> ?_⟩;simp only[List.mem_append,List.mem_singleton]at hz;rcases hz with hz|rfl
  ·exact this.2.2 z hz
  ·exact hv
 ·exact h.ok.1 g (by simp[hg])
theorem RF.room{h0:Option PH}(h:RF M x y ⟨f::r,h0⟩ fp):f.words.length≤f.room:=by
 obtain⟨s,prev,hd,l0,cap,fs,rest,fpl,hr⟩:=h.view;exact hr.top.ok.2.1
theorem RF.put_no{h0:Option PH}(h:RF M x y ⟨f::r,h0⟩ fp)(hp:Hq A m M)(v:Int)(hw:f.room≤f.words.length):putF A m x v=(A,false):=by
 obtain⟨s,prev,hd,l0,cap,fs,rest,fpl,hr⟩:=h.view;have:=h.room;exact hr.top.put_no hp v (by omega)
theorem RF.put_none{h0:Option PH}(h:RF M x y ⟨[],h0⟩ fp)(hp:Hq A m M)(v:Int):putF A m x v=(A,false):=by
 unfold putF;rw[(h.empty hp).1];rfl
theorem RF.words{h0:Option PH}(h:RF M x y ⟨f::r,h0⟩ fp)(hp:Hq A m M):wordsF A m x=f.words.length:=by
 obtain⟨s,prev,hd,l0,cap,fs,rest,fpl,hr⟩:=h.view;exact hr.top.words hp
theorem RF.words_none{h0:Option PH}(h:RF M x y ⟨[],h0⟩ fp)(hp:Hq A m M):wordsF A m x=0:=by
 unfold wordsF;rw[(h.empty hp).1];rfl
theorem RF.cl{h0:Option PH}(h:RF M x y ⟨f::r,h0⟩ fp)(hp:Hq A m M):gtF A m (gtF A m x 1) (2+nmF A m x 2)=f.cl∧nmF A m (gtF A m x 1) (2+nmF A m x 2+1)=f.pc:=by
 obtain⟨s,prev,hd,l0,cap,fs,rest,fpl,hr⟩:=h.view;exact⟨hr.top.cl hp,hr.top.pc hp⟩
theorem RF.take{h0:Option PH}{v:Int}(h:RF M x y ⟨{ f with words:=f.words++[v]}::r,h0⟩ fp)(hp:Hq A m M):
 (takeF A m x).2=v∧∃M',Hq (takeF A m x).1 m M'∧RF M' x y ⟨f::r,h0⟩ fp∧Off fp M M'∧Kp8 M M':=by
 obtain⟨s,prev,hd,l0,cap,fs,rest,fpl,hr⟩:=h.view;obtain⟨e,M',h1,h2,h3⟩:=hr.top.take hp;have hk:=hr.k8 h3.s2;refine⟨e,M',h1,hr.re h2 h3.s2 hk ⟨fun g hg=> ?_,h.ok.2⟩,h3.s2.mono hr.in,hk⟩;rcases List.mem_cons.1 hg with rfl|hg
 ·have:=h.ok.1 { g with words:=g.words++[v]} (by simp);exact⟨this.1,this.2.1,fun z hz=>this.2.2 z (by simp[hz])⟩
 ·exact h.ok.1 g (by simp[hg])
theorem RF.take_no{h0:Option PH}(h:RF M x y ⟨f::r,h0⟩ fp)(hp:Hq A m M)(hw:f.words=[]):takeF A m x=(A,45):=by
 obtain⟨s,prev,hd,l0,cap,fs,rest,fpl,hr⟩:=h.view;exact hr.top.take_no hp hw
theorem RF.take_none{h0:Option PH}(h:RF M x y ⟨[],h0⟩ fp)(hp:Hq A m M):takeF A m x=(A,45):=by
 unfold takeF;rw[h.words_none hp,if_pos rfl]
theorem Top.pop_up(h:Top M x s prev below hand l0 cap [f])(hp:Hq A m M)(hr:prev%8=1):
 (popF A m x).2=true∧∃M',Hq (popF A m x).1 m M'∧Fib M' x below prev l0 hand∧Off [s,x] M M':=by
 have hz:=h.sz hp;have hl:=h.len;have b:nmF A m x 2=0:=by have:=h.b hp;simpa[szL]using this
 have h2:gtF A m s (2+0+2)=smW (lk l0 []):=by have:=h.h2 hp;simpa[szL]using this
 obtain⟨o,ho,hn,_⟩:=h.seg.obj;have hp1:=hp.st ho (i:=1) (by omega) (by omega) (zH 0);have S1:Seg (M.put s 1 (smW 0)) s prev cap ((enc l0 [f]).take 0):=h.seg.cut (k:=0) (by omega);have g0:=S1.g0 hp1;have F1:=h.fib.off (Off.put M s 1 (smW 0)) (by simpa using h.ne);obtain⟨o2,ho2,hn2,_⟩:=F1.obj;have hpw:W64 prev:=by rw[←g0];exact gtF_w hp1.wdA _ _ _
 unfold popF;rw[h.no hp];simp only[Bool.false_eq_true,if_false];rw[(h.fib.g hp).2.1,b,h2,g0,if_pos ⟨rfl,hr⟩];have hp2:=hp1.st ho2 (i:=1) (by omega) (by omega) hpw;have F2:=F1.seg' prev;obtain⟨o3,ho3,hn3,_⟩:=F2.obj;have hp3:=hp2.st ho3 (i:=2) (by omega) (by omega) (zH (lk l0 []));refine⟨trivial,_,hp3,F2.base' _, ?_⟩;exact(((Off.put _ _ _ _).mono (by simp)).trans ((Off.put _ _ _ _).mono (by simp))).trans ((Off.put _ _ _ _).mono (by simp))
theorem RF.pop{h0:Option PH}(h:RF M x y ⟨f::r,h0⟩ fp)(hp:Hq A m M):
 (popF A m x).2=true∧∃M' fp',Hq (popF A m x).1 m M'∧RF M' x y ⟨r,h0⟩ fp'∧Off fp M M'∧Kp8 M M'∧∀z,z∈fp'→z∈fp:=by
 obtain⟨s,prev,hd,l0,cap,fs,rest,fpl,hr⟩:=h.view;have hok:PF.Ok ⟨r,h0⟩:=⟨fun g hg=>h.ok.1 g (by simp[hg]),h.ok.2⟩
 have hdis: ∀z,z∈fpl→z∉ [s,x]:=by
  intro z hz hc;simp only[List.mem_cons,List.not_mem_nil,or_false]at hc;rcases hc with rfl|rfl
  ·exact hr.n2 hz
  ·exact hr.n1 hz
 by_cases hc:fs=[]∧prev%8=1
 ·obtain⟨rfl,hc⟩:=hc;obtain⟨e,M',h1,h2,h3⟩:=hr.top.pop_up hp hc;have hk:=hr.k8 h3;have hlow:=hr.low.off h3 hdis;have her:=hr.er;simp only[List.nil_append]at her;subst her;refine⟨e,M',x::fpl,h1,⟨⟨prev,l0,hd,fpl,h2, ?_,hr.hr.k8 hk,rfl,hr.n1⟩,hok⟩,h3.mono hr.in,hk, ?_⟩
  ·simp only;cases hlow with
   |nil=>exact absurd hc (by decide)
   |cons seg ok low out=>exact .full (.cons seg ok low out)
  ·intro z hz;rw[hr.ef];rcases List.mem_cons.1 hz with rfl|hz
   ·simp
   ·simp[hz]
 ·obtain⟨e,M',h1,h2,h3⟩:=hr.top.pop hp (by
   by_cases h:fs=[]
   ·exact .inr (fun h2=>hc ⟨h,h2⟩)
   ·exact .inl h)
  have hk:=hr.k8 h3;have hlow:=hr.low.off h3 hdis;cases fs with
  |cons g fs=>
   refine⟨e,M',fp,h1,⟨⟨s,szL fs,hd,s::fpl,h2.fib, ?_,hr.hr.k8 hk,hr.ef, ?_⟩,hok⟩,h3.mono hr.in,hk,fun _ h=>h⟩
   ·simp only;rw[hr.er];exact .full (.cons h2.seg h2.ok hlow hr.n2)
   ·simp only[List.mem_cons,not_or];exact⟨h2.ne,hr.n1⟩
  |nil=>
   have hpn:prev%8≠1:=fun h=>hc ⟨rfl,h⟩
   have her:=hr.er;simp only[List.nil_append]at her;subst her;cases hlow with
   |nil=>
    refine⟨e,M',[x,s],h1,⟨⟨s, -1,hd,[s],h2.fib,.empty h2.seg ?_,hr.hr.k8 hk,rfl,by simpa using h2.ne⟩,hok⟩,h3.mono hr.in,hk, ?_⟩
    ·have:=hr.top.ok.1;simp only[szL]at this;omega
    ·intro z hz;exact hr.in z (by simp at hz⊢;rcases hz with rfl|rfl<;>simp)
   |cons seg ok low out=>exact absurd (seg.tag h1) hpn
theorem RF.pop_none{h0:Option PH}(h:RF M x y ⟨[],h0⟩ fp)(hp:Hq A m M):popF A m x=(A,false):=by
 unfold popF;rw[(h.empty hp).1];rfl
end
end Go.Proofs.YtghkahcogphomaaGreat
