/- Short names of frequent terms and laws. -/
import Derived.Below
set_option linter.all false
namespace Go
open RowKit
@[simp] abbrev Yn5:Array Value := #[.slice none 0 0,.slice none 0 0,.slice none 0 0,.slice none 0 0,.slice none 0 0]
@[simp] abbrev Yo2:Array Value := #[.int .i64 0,.int .i64 0]
@[simp] abbrev Yqe(o:ByteArray)(n:Int)(s:ByteArray)(a:Option Addr)(k c:Nat):Array Value := #[.string o,.int .i64 n,.string s,.slice a k c]
theorem Yba{w:World}{o:Obj}:Below w.heap.size w (w.alloc o):=(Below.refl _ _).alloc (Nat.le_refl _) _
@[simp] abbrev Yqi(x y:Int):Array Value := #[.int .i64 x,.int .i64 y]
@[simp] abbrev Ysl(g n c:Nat):Value:=.slice (some ⟨g,0,none⟩) n c
@[simp] abbrev Ys0:Value:=.slice none 0 0
abbrev Ybw(w w':World):Prop:=Below w.heap.size w w'
theorem Ylr{n:Nat}:n≤n:=Nat.le_refl _
theorem Ypo{a b c d e:Value}{i j k l m:Nat}(h1:∃x y,a=.slice x i y)(h2:∃x y,b=.slice x j y)(h3:∃x y,c=.slice x k y)(h4:∃x y,d=.slice x l y)(h5:∃x y,e=.slice x m y):∃p q r s t u v w x y,a=.slice p i q/\b=.slice r j s/\c=.slice t k u/\d=.slice v l w/\e=.slice x m y:=by
  obtain⟨p,q,h1⟩:=h1;obtain⟨r,s,h2⟩:=h2;obtain⟨t,u,h3⟩:=h3;obtain⟨v,w,h4⟩:=h4;obtain⟨x,y,h5⟩:=h5;exact⟨p,q,r,s,t,u,v,w,x,y,h1,h2,h3,h4,h5⟩
theorem Ygg{α:Type}{l:List α}{i:Nat}{a:α}:l.getD i a=l[i]?.getD a:=List.getD_eq_getElem?_getD
theorem Ybb(b:Bool):b=true\/b=false:=Bool.eq_false_or_eq_true b
theorem Ymm{α:Type}{l:List α}{i:Nat}(h:i<l.length):l[i]∈l:=List.getElem_mem h
end Go
